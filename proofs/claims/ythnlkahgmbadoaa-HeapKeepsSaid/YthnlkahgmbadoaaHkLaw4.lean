/- HeapKeeps: something is made. -/
import Derived.Test.YthnlkahgmbadoaaHkLaw3
import Derived.Test.YthnlkahgmbadoaaHmTab
namespace Go.Proofs.Ythnlkahgmbadoaa
open Go.RowKit
set_option linter.unusedSimpArgs false
set_option linter.unusedVariables false
set_option maxRecDepth 100000

def hkC1 (f : Func) : Code := cdT (sqR (blkIn (hkB2 f)))
section
variable {zs : List (List Value)} {L : HkB} {oa : Option Addr} {cnt i : Nat} {e : Tr Value} {o : Tr AObj} {nx : Nat} {lg : List Nat} {w : Nat → Nat} {B : HB} {hs : HS} {es : List MapEntry} {c : Nat} {sl : Value} {ls : List VV} {k a b c' n : Int} {s : ByteArray} {p : Nat}
/-- behind the calls that make something: the value and the error are in their boxes -/
structure HkV (L : HkB) (i : Nat) (o : Tr AObj) (nx : Nat) (w : Nat → Nat) (v : VV) (er : Int) (e : Tr Value) (o1 : Tr AObj) (nx1 : Nat) (w1 : Nat → Nat) (B1 : HB) (hs1 : HS) : Prop where
  heap : HeapIn o1 nx1 w1 B1 hs1
  hB : B1.i = L.bi
  le : nx ≤ nx1
  fr : ∀ x, x < nx → w x = 0 → o1.get x = o.get x ∧ w1 x = 0
  g14 : ∃ q, e.get 14 = some (.pointer (some ⟨q, 0, none⟩)) ∧ q < nx1 ∧ w1 q = 0 ∧ nx ≤ q ∧ o1.get q = some (.row [.int .u8 v.1, .int .i64 v.2] 30 0 true)
  g15 : e.get 15 = some (.int .i64 er)
  ne : ∀ q q', e.get 10 = some (.pointer (some ⟨q, 0, none⟩)) → e.get 14 = some (.pointer (some ⟨q', 0, none⟩)) → q ≠ q'
  g10 : ∃ q, e.get 10 = some (.pointer (some ⟨q, 0, none⟩)) ∧ q < nx1 ∧ q ≠ L.mw ∧ o1.get q = some (.row [.int .u8 3, .int .i64 (.ofNat (i + 1))] 30 0 true)
set_option maxHeartbeats 16000000 in
theorem hk_no {v : VV} {er : Int} {o1 : Tr AObj} {nx1 : Nat} {lg1 : List Nat} {w1 : Nat → Nat} {B1 : HB} {hs1 : HS} (M : HkIn zs L cnt o nx w B hs es c sl ls) (E : HkE zs.length L oa i sl e) (V : HkV L i o nx w v er e o1 nx1 w1 B1 hs1) (K1 : KP hs1 (2 * (cnt + 1))) (ho : hs1.objs = hs.objs) (her : er ≠ 0) :
    Got (rCode Try.prog (oCall Try.prog [] O14 999) 999 (sqR (sqR (hkC1 Try.f4))) e ⟨o1, nx1, lg1⟩) fun s => ∃ e' H', s = (.on, e', H') ∧ HkSt zs L oa (cnt + 1) i e' H' := by
  have g15 := V.g15
  have hms : o1.get L.mw = some (.map es c) := (V.fr _ M.ltm M.wm).1.trans M.want
  refine n_seq ?_
  repeat (first | with_reducible (first | refine n_on ?_ | refine n_seq ?_ | refine s_else ?_ | refine n_t ?_ | refine n_gt ?_ | refine d_t ?_ | refine n_nil ?_ | refine d_nil ?_ | refine n_block ?_ | refine n_skip ?_ | refine n_bon ?_ | refine n_bback ?_ | refine n_back ?_ | refine n_out ?_ | refine n_bout rfl ?_ | refine n_bfar rfl ?_ | refine n_ret ?_ | refine n_exit ?_ | refine n_label ?_ | refine n_scope ?_ | refine n_son ?_ | refine n_sback ?_) | (with_reducible (first | apply n_region | apply d_region); (simp only [JV, JU, JW, Nat.reduceAdd, Nat.zero_add]; exact rfl)) | (with_reducible (first | apply s_op | apply n_guard | apply n_cond | apply d_guard | apply d_op | apply n_fin | apply n_finb); (simp (maxDischargeDepth := 6) only [sy3.1, zY, qG, qP, qQ, qR, qS, qT, rowAt, ↓jg, ↓ji, Nat.reduceAdd, Nat.reduceEqDiff, ne_eq, jG, Nat.reduceLT, if_true, ite_true, Int.reduceLE, Int.reduceLT, Int.reduceEq, Int.reduceNeg, Int.reduceAdd, Nat.reduceSub, if_false, ite_false, fs_4.1, g15, decide_eq_false her, kind_pure, kind_load, kind_fresh, kind_other, jg, ji, undef]; first | exact rfl | exact ⟨rfl, rfl, rfl, rfl⟩); try (with_reducible refine calmK_in ?_; decide +kernel)))
  refine ⟨_, _, rfl, ⟨_, _, _, _, _, _, _, _, _, _, rfl, M.turned V.heap V.hB V.le V.fr K1 (nx2 := _) (by omega) (fun x hx hxm => rfl) hms (by rw [ho]; exact M.kv), ⟨?_, ?_, ?_, ?_, ?_, ?_⟩⟩⟩ <;> simp only [qC, qD, qE, qF, Tr.get_nil, ne_eq, not_false_eq_true, Nat.reduceEqDiff, E.g0, E.g3, E.g5, E.g6, E.g7, E.g8]
set_option maxHeartbeats 16000000 in
theorem hk_yes {d : Int} {ob : Ob} {o1 : Tr AObj} {nx1 : Nat} {lg1 : List Nat} {w1 : Nat → Nat} {B1 : HB} {hs1 : HS} (M : HkIn zs L cnt o nx w B hs es c sl ls) (E : HkE zs.length L oa i sl e) (V : HkV L i o nx w (ob.kind, d) 0 e o1 nx1 w1 B1 hs1) (K1 : KP hs1 (2 * (cnt + 1))) (ho : hs1.objs = hs.objs ++ [(d, ob)]) (hd : d ∉ hs.objs.map (·.1)) (hnum : numOf ob = .ofNat (i + 1)) (hcnt : cnt ≤ 150) :
    Got (rCode Try.prog (oCall Try.prog [] O14 999) 999 (sqR (sqR (hkC1 Try.f4))) e ⟨o1, nx1, lg1⟩) fun s => ∃ e' H', s = (.on, e', H') ∧ HkSt zs L oa (cnt + 1) i e' H' := by
  have g15 := V.g15
  have g0 := E.g0; have g3 := E.g3; have g5 := E.g5; have g6 := E.g6; have g7 := E.g7; have g8 := E.g8
  obtain ⟨q14, g14, l14, w14, p14, r14⟩ := V.g14
  obtain ⟨q10, g10, l10, n10, r10⟩ := V.g10
  have hms : o1.get L.mw = some (.map es c) := (V.fr _ M.ltm M.wm).1.trans M.want
  have hml : L.mw < nx1 := by have := M.ltm; have := V.le; omega
  have hm1 := M.ltm; have hb1 := M.lt1; have hm0 := M.m0; have hb0 := M.n0; have hne := M.ne; have hle := V.le
  obtain ⟨u, hlk⟩ := want_look M.kv (ob.kind, d) L.mw c
  obtain ⟨hnew, hput2⟩ := want_new hs.objs d ob hd
  have hnew : (ob.kind, d) ∉ hs.objs.map keyOf := hnew
  rw [decide_eq_false hnew] at hlk
  obtain ⟨es', c2, hput, hmap'⟩ := map_put key_vv Try.underlying42 M.kv L.mw c (ob.kind, d) (.int .i64 (.ofNat (i + 1)))
  unfold vv at hput
  rw [← hnum] at hmap'
  rw [show putK (ob.kind, d) (.int .i64 (numOf ob)) (wantKV hs.objs) = _ from hput2, ← ho] at hmap'
  simp only at hlk hput r14
  have hwnx : ∀ x, nx1 ≤ x → w1 x = 0 := fun x hx => by
    by_cases e : w1 x = 0
    · exact e
    · have := V.heap.wlt x e; omega
  have n14 : q14 ≠ L.mw := by omega
  have n14' := n14.symm
  have n10' := n10.symm
  have hlsn := M.lsn
  have hwm1 := (V.fr _ M.ltm M.wm).2
  rcases M.lst with ⟨rfl, rfl⟩ | ⟨j, rfl, hj, hwj, j0, j1, j2, hjr, l0⟩
  · refine n_seq ?_
    repeat (first | with_reducible (first | refine n_on ?_ | refine n_seq ?_ | refine s_else ?_ | refine n_t ?_ | refine n_gt ?_ | refine d_t ?_ | refine n_nil ?_ | refine d_nil ?_ | refine n_block ?_ | refine n_skip ?_ | refine n_bon ?_ | refine n_bback ?_ | refine n_back ?_ | refine n_out ?_ | refine n_bout rfl ?_ | refine n_bfar rfl ?_ | refine n_ret ?_ | refine n_exit ?_ | refine n_label ?_ | refine n_scope ?_ | refine n_son ?_ | refine n_sback ?_) | (with_reducible (first | apply n_region | apply d_region); (simp only [JV, JU, JW, Nat.reduceAdd, Nat.zero_add]; exact rfl)) | (with_reducible (first | apply s_op | apply n_guard | apply n_cond | apply d_guard | apply d_op | apply n_fin | apply n_finb); (simp (maxDischargeDepth := 6) only [sy3.1, zY, qG, qP, qQ, qR, qS, qT, rowAt, ↓jg, ↓ji, Nat.reduceAdd, Nat.reduceEqDiff, ne_eq, jG, Nat.reduceLT, if_true, ite_true, Int.reduceLE, Int.reduceLT, Int.reduceEq, Int.reduceNeg, Int.reduceAdd, Nat.reduceSub, if_false, ite_false, fs_4.1, g15, g14, r14, l14, g5, hms, hml, hlk, g10, r10, l10, hput, n14, n14', n10, n10', g6, st_buildSliceV, build_v1, vlist_nil (ob.kind, d), kind_pure, kind_load, kind_fresh, kind_other, jg, ji, undef]; first | exact rfl | exact ⟨rfl, rfl, rfl, rfl⟩); try (with_reducible refine calmK_in ?_; decide +kernel)))
    refine ⟨_, _, rfl, ⟨_, nx1 + 21, _, w1, B1, hs1, es', c2, .slice (some ⟨nx1 + 19, 0, none⟩) (1) 0, [(ob.kind, d)], rfl, ⟨V.heap.keep (by omega) (fun x hx => by have := V.heap.wlt x hx; omega) fun x hx => ⟨?_, rfl⟩, V.hB, K1, (V.fr 0 (by omega) M.w0).2, hwm1, (V.fr _ hb1 M.w1).2, by omega, by omega, hm0, hb0, hne, ?_, ?_, ?_, hmap', .inr ⟨nx1 + 19, rfl, by omega, hwnx _ (by omega), by omega, by omega, by omega, qE _ _ _, by simp⟩, by simp⟩, ⟨?_, ?_, ?_, ?_, ?_, ?_⟩⟩⟩
    · have := V.heap.wlt x hx
      have v1 : x ≠ L.mw := fun e => hx (by rw [e]; exact hwm1)
      (repeat (first | rw [qE] | rw [qF _ _ _ _ (by omega)]))
    · (repeat (first | rw [qE] | rw [qF _ _ _ _ (by omega)]))
      exact (V.fr 0 (by omega) M.w0).1.trans M.row
    · (repeat (first | rw [qE] | rw [qF _ _ _ _ (by omega)]))
      exact (V.fr _ hb1 M.w1).1.trans M.one
    · (repeat (first | rw [qE] | rw [qF _ _ _ _ (by omega)]))
    all_goals simp only [qC, qD, qE, qF, Tr.get_nil, ne_eq, not_false_eq_true, Nat.reduceEqDiff, g0, g3, g5, g6, g7, g8, List.length_append, List.length_cons, List.length_nil]
  · have hj1 := (V.fr j hj hwj).1.trans hjr
    have hwj1 := (V.fr j hj hwj).2
    have hjl : j < nx1 := by omega
    have hva := vlist_row (ob.kind, d) (l := ls) rfl (by omega)
    have j1' := j1.symm
    refine n_seq ?_
    repeat (first | with_reducible (first | refine n_on ?_ | refine n_seq ?_ | refine s_else ?_ | refine n_t ?_ | refine n_gt ?_ | refine d_t ?_ | refine n_nil ?_ | refine d_nil ?_ | refine n_block ?_ | refine n_skip ?_ | refine n_bon ?_ | refine n_bback ?_ | refine n_back ?_ | refine n_out ?_ | refine n_bout rfl ?_ | refine n_bfar rfl ?_ | refine n_ret ?_ | refine n_exit ?_ | refine n_label ?_ | refine n_scope ?_ | refine n_son ?_ | refine n_sback ?_) | (with_reducible (first | apply n_region | apply d_region); (simp only [JV, JU, JW, Nat.reduceAdd, Nat.zero_add]; exact rfl)) | (with_reducible (first | apply s_op | apply n_guard | apply n_cond | apply d_guard | apply d_op | apply n_fin | apply n_finb); (simp (maxDischargeDepth := 6) only [sy3.1, zY, qG, qP, qQ, qR, qS, qT, rowAt, ↓jg, ↓ji, Nat.reduceAdd, Nat.reduceEqDiff, ne_eq, jG, Nat.reduceLT, if_true, ite_true, Int.reduceLE, Int.reduceLT, Int.reduceEq, Int.reduceNeg, Int.reduceAdd, Nat.reduceSub, if_false, ite_false, fs_4.1, g15, g14, r14, l14, g5, hms, hml, hlk, g10, r10, l10, hput, n14, n14', n10, n10', g6, st_buildSliceV, build_v1, hva, hj1, hjl, j1, j1', kind_pure, kind_load, kind_fresh, kind_other, jg, ji, undef]; first | exact rfl | exact ⟨rfl, rfl, rfl, rfl⟩); try (with_reducible refine calmK_in ?_; decide +kernel)))
    refine ⟨_, _, rfl, ⟨_, nx1 + 21, _, w1, B1, hs1, es', c2, .slice (some ⟨nx1 + 19, 0, none⟩) (ls.length + 1) 0, ls ++ [(ob.kind, d)], rfl, ⟨V.heap.keep (by omega) (fun x hx => by have := V.heap.wlt x hx; omega) fun x hx => ⟨?_, rfl⟩, V.hB, K1, (V.fr 0 (by omega) M.w0).2, hwm1, (V.fr _ hb1 M.w1).2, by omega, by omega, hm0, hb0, hne, ?_, ?_, ?_, hmap', .inr ⟨nx1 + 19, by rw [List.length_append]; rfl, by omega, hwnx _ (by omega), by omega, by omega, by omega, qE _ _ _, by simp⟩, by simp; omega⟩, ⟨?_, ?_, ?_, ?_, ?_, ?_⟩⟩⟩
    · have := V.heap.wlt x hx
      have v1 : x ≠ L.mw := fun e => hx (by rw [e]; exact hwm1)
      have v2 : x ≠ j := fun e => hx (by rw [e]; exact hwj1)
      (repeat (first | rw [qE] | rw [qF _ _ _ _ (by omega)]))
    · (repeat (first | rw [qE] | rw [qF _ _ _ _ (by omega)]))
      exact (V.fr 0 (by omega) M.w0).1.trans M.row
    · (repeat (first | rw [qE] | rw [qF _ _ _ _ (by omega)]))
      exact (V.fr _ hb1 M.w1).1.trans M.one
    · (repeat (first | rw [qE] | rw [qF _ _ _ _ (by omega)]))
    all_goals simp only [qC, qD, qE, qF, Tr.get_nil, ne_eq, not_false_eq_true, Nat.reduceEqDiff, g0, g3, g5, g6, g7, g8, List.length_append, List.length_cons, List.length_nil]
/-- what is made, or not -/
def HkMade (zs : List (List Value)) (L : HkB) (oa : Option Addr) (cnt i : Nat) (o : Tr AObj) (nx : Nat) (w : Nat → Nat) (hs : HS) (sl : Value) (s : St) : Prop :=
  ∃ e' o3 nx3 lg3 w3 B3 hs3 v er, s = (.on, e', (⟨o3, nx3, lg3⟩ : AHeap)) ∧ HkV L i o nx w v er e' o3 nx3 w3 B3 hs3 ∧ HkE zs.length L oa i sl e' ∧ KP hs3 (2 * (cnt + 1)) ∧
    ((er ≠ 0 ∧ hs3.objs = hs.objs) ∨ (er = 0 ∧ ∃ d ob, v = (ob.kind, d) ∧ hs3.objs = hs.objs ++ [(d, ob)] ∧ d ∉ hs.objs.map (·.1) ∧ numOf ob = .ofNat (i + 1)))
theorem hk_fin (M : HkIn zs L cnt o nx w B hs es c sl ls) (hcnt : cnt ≤ 150) {e1 : Tr Value} {H1 : AHeap} (h : HkMade zs L oa cnt i o nx w hs sl (.on, e1, H1)) :
    Got (rCode Try.prog (oCall Try.prog [] O14 999) 999 (sqR (sqR (hkC1 Try.f4))) e1 H1) fun s => ∃ e' H', s = (.on, e', H') ∧ HkSt zs L oa (cnt + 1) i e' H' := by
  obtain ⟨e', o3, nx3, lg3, w3, B3, hs3, v, er, heq, V, E, K, hh⟩ := h
  cases heq
  rcases hh with ⟨h1, h2⟩ | ⟨rfl, d, ob, rfl, h2, h3, h4⟩
  · exact hk_no M E V K h2 h1
  · exact hk_yes M E V K h2 h3 h4 hcnt
def hkU (f : Func) : Code := sqR (cdT (sqR (sqL (sqR (hkC1 f)))))
set_option maxHeartbeats 32000000 in
/-- a table is made, and given its key -/
theorem hk_table {v0 : VV} {er0 : Int} {o1 : Tr AObj} {nx1 : Nat} {lg1 : List Nat} {w1 : Nat → Nat} {B1 : HB} {hs1 : HS} (M : HkIn zs L cnt o nx w B hs es c sl ls) (E : HkE zs.length L oa i sl e) (V : HkV L i o nx w v0 er0 e o1 nx1 w1 B1 hs1) (K1 : KP hs1 (2 * cnt + 1)) (ho : hs1.objs = hs.objs) (hcnt : cnt ≤ 150) (n10 : ∀ q, e.get 10 = some (.pointer (some ⟨q, 0, none⟩)) → w1 q = 0) :
    Got (rCode Try.prog (oCall Try.prog [] O14 999) 999 (hkU Try.f4) e ⟨o1, nx1, lg1⟩) (HkMade zs L oa cnt i o nx w hs sl) := by
  have g15 := V.g15
  have g0 := E.g0; have g3 := E.g3; have g5 := E.g5; have g6 := E.g6; have g7 := E.g7; have g8 := E.g8
  obtain ⟨q14, g14, l14, w14, p14, r14⟩ := V.g14
  obtain ⟨q10, g10, l10, n10', r10⟩ := V.g10
  have w10 := n10 q10 g10
  have hle := V.le
  have hb1 := M.lt1
  have r7 := (V.fr _ M.lt1 M.w1).1.trans M.one
  have w7 := (V.fr _ M.lt1 M.w1).2
  have l7 : L.b1 < nx1 := by omega
  have hsz := K1.sizes
  refine n_seq ?_
  repeat (first | with_reducible (first | refine n_on ?_ | refine n_seq ?_ | refine s_else ?_ | refine n_t ?_ | refine n_gt ?_ | refine d_t ?_ | refine n_nil ?_ | refine d_nil ?_ | refine n_block ?_ | refine n_skip ?_ | refine n_bon ?_ | refine n_bback ?_ | refine n_back ?_ | refine n_out ?_ | refine n_bout rfl ?_ | refine n_bfar rfl ?_ | refine n_ret ?_ | refine n_exit ?_ | refine n_label ?_ | refine n_scope ?_ | refine n_son ?_ | refine n_sback ?_) | (with_reducible (first | apply n_region | apply d_region); (simp only [JV, JU, JW, Nat.reduceAdd, Nat.zero_add]; exact rfl)) | (with_reducible (first | apply s_op | apply n_guard | apply n_cond | apply d_guard | apply d_op | apply n_fin | apply n_finb); (simp (maxDischargeDepth := 6) only [sy3.1, zY, qG, qP, qQ, qR, qS, qT, rowAt, ↓jg, ↓ji, Nat.reduceAdd, Nat.reduceEqDiff, ne_eq, jG, Nat.reduceLT, if_true, ite_true, Int.reduceLE, Int.reduceLT, Int.reduceEq, Int.reduceNeg, Int.reduceAdd, Nat.reduceSub, if_false, ite_false, fs_4.1, g3, g14, r14, kind_pure, kind_load, kind_fresh, kind_other, jg, ji, undef]; first | exact rfl | exact ⟨rfl, rfl, rfl, rfl⟩); try (with_reducible refine calmK_in ?_; decide +kernel)))
  refine s_do _ (by
    simp (maxDischargeDepth := 6) only [sy3.1, zY, qG, qP, qQ, qR, qS, qT, rowAt, ↓jg, ↓ji, Nat.reduceAdd, Nat.reduceEqDiff, ne_eq, jG, Nat.reduceLT, if_true, ite_true, Int.reduceLE, Int.reduceLT, Int.reduceEq, Int.reduceNeg, Int.reduceAdd, Nat.reduceSub, if_false, ite_false, fs_4.1, g3, ← V.hB]
    exact table_ok (n := 994) clear14 (V.heap.more (by omega) fun _ _ => rfl) K1.good (by have := K1.count; omega) (by have := K1.made; omega) (by omega)) ?_
  rintro v1 H1 ⟨o2, nx2, lg2, w2, B2, heq, hn2, hH2, hB2, hfr2, hmo2, _⟩
  cases heq
  have fr2 : ∀ x, x < nx → w x = 0 → o2.get x = o.get x ∧ w2 x = 0 := fun x hx hw => by
    have a := V.fr x hx hw
    have b := hfr2 x (by omega) a.2
    exact ⟨b.1.trans a.1, b.2⟩
  have r14' := (hfr2 q14 (by omega) w14).1.trans r14
  have w14' := (hfr2 q14 (by omega) w14).2
  have r10' := (hfr2 q10 (by omega) w10).1.trans r10
  have w10' := (hfr2 q10 (by omega) w10).2
  have r7' := (hfr2 _ (by omega) w7).1.trans r7
  have w7' := (hfr2 _ (by omega) w7).2
  have l14' : q14 < nx2 := by omega
  have l10' : q10 < nx2 := by omega
  have l7' : L.b1 < nx2 := by omega
  have n1 : q10 ≠ q14 := V.ne _ _ g10 g14
  have n1' := n1.symm
  have n2 : q14 ≠ L.b1 := by omega
  have n2' := n2.symm
  rcases kp_table K1 (by omega) (.ofNat (i + 1)) with ⟨t1, t2⟩ | ⟨t1, d, ob, t2, t3, t4, t5, t6, t7, t8, t9, t10, tc⟩
  · generalize hT : tableO hs1 = T at *
    obtain ⟨hs2, ⟨vk, vd⟩, er⟩ := T
    simp only at t1 t2 hH2
    subst t2
    repeat (first | with_reducible (first | refine n_on ?_ | refine n_seq ?_ | refine s_else ?_ | refine n_t ?_ | refine n_gt ?_ | refine d_t ?_ | refine n_nil ?_ | refine d_nil ?_ | refine n_block ?_ | refine n_skip ?_ | refine n_bon ?_ | refine n_bback ?_ | refine n_back ?_ | refine n_out ?_ | refine n_bout rfl ?_ | refine n_bfar rfl ?_ | refine n_ret ?_ | refine n_exit ?_ | refine n_label ?_ | refine n_scope ?_ | refine n_son ?_ | refine n_sback ?_) | (with_reducible (first | apply n_region | apply d_region); (simp only [JV, JU, JW, Nat.reduceAdd, Nat.zero_add]; exact rfl)) | (with_reducible (first | apply s_op | apply n_guard | apply n_cond | apply d_guard | apply d_op | apply n_fin | apply n_finb); (simp (maxDischargeDepth := 6) only [sy3.1, zY, qG, qP, qQ, qR, qS, qT, rowAt, ↓jg, ↓ji, Nat.reduceAdd, Nat.reduceEqDiff, ne_eq, jG, Nat.reduceLT, if_true, ite_true, Int.reduceLE, Int.reduceLT, Int.reduceEq, Int.reduceNeg, Int.reduceAdd, Nat.reduceSub, if_false, ite_false, fs_4.1, g3, g14, r14', l14', g15, decide_eq_false t1, vv, kind_pure, kind_load, kind_fresh, kind_other, jg, ji, undef]; first | exact rfl | exact ⟨rfl, rfl, rfl, rfl⟩); try (with_reducible refine calmK_in ?_; decide +kernel)))
    refine ⟨_, _, _, _, w2, B2, hs2, (vk, vd), er, rfl, ⟨hH2.keep (by omega) (fun x hx => by have := hH2.wlt x hx; omega) fun x hx => ⟨?_, rfl⟩, hB2.trans V.hB, by omega, fun x hx hw => ⟨?_, (fr2 x hx hw).2⟩, ⟨q14, ?_, by omega, w14', p14, qE _ _ _⟩, ?_, ?_, ⟨q10, ?_, by omega, n10', ?_⟩⟩, ⟨?_, ?_, ?_, ?_, ?_, ?_⟩, K1.wider (by omega), .inl ⟨t1, ho⟩⟩
    · have v1 : x ≠ q14 := fun e => hx (by rw [e]; exact w14')
      (repeat (first | rw [qE] | rw [qF _ _ _ _ (by omega)]))
    · have := fr2 x hx hw
      (repeat (first | rw [qE] | rw [qF _ _ _ _ (by omega)]))
      exact this.1
    · simp only [qC, qD, qE, qF, Tr.get_nil, ne_eq, not_false_eq_true, Nat.reduceEqDiff, g14]
    · simp only [qC, qD, qE, qF, Tr.get_nil, ne_eq, not_false_eq_true, Nat.reduceEqDiff]
    · intro q q' h1 h2
      simp only [qC, qD, qE, qF, Tr.get_nil, ne_eq, not_false_eq_true, Nat.reduceEqDiff] at h1 h2
      exact V.ne q q' h1 h2
    · simp only [qC, qD, qE, qF, Tr.get_nil, ne_eq, not_false_eq_true, Nat.reduceEqDiff, g10]
    · (repeat (first | rw [qE] | rw [qF _ _ _ _ (by omega)]))
      exact r10'
    all_goals simp only [qC, qD, qE, qF, Tr.get_nil, ne_eq, not_false_eq_true, Nat.reduceEqDiff, g0, g3, g5, g6, g7, g8]
  · generalize hT : tableO hs1 = T at *
    obtain ⟨hs2, ⟨vk, vd⟩, er⟩ := T
    simp only at t1 t2 t3 t5 t6 t7 t8 t10 tc hH2
    subst t1
    cases t2
    repeat (first | with_reducible (first | refine n_on ?_ | refine n_seq ?_ | refine s_else ?_ | refine n_t ?_ | refine n_gt ?_ | refine d_t ?_ | refine n_nil ?_ | refine d_nil ?_ | refine n_block ?_ | refine n_skip ?_ | refine n_bon ?_ | refine n_bback ?_ | refine n_back ?_ | refine n_out ?_ | refine n_bout rfl ?_ | refine n_bfar rfl ?_ | refine n_ret ?_ | refine n_exit ?_ | refine n_label ?_ | refine n_scope ?_ | refine n_son ?_ | refine n_sback ?_) | (with_reducible (first | apply n_region | apply d_region); (simp only [JV, JU, JW, Nat.reduceAdd, Nat.zero_add]; exact rfl)) | (with_reducible (first | apply s_op | apply n_guard | apply n_cond | apply d_guard | apply d_op | apply n_fin | apply n_finb); (simp (maxDischargeDepth := 6) only [sy3.1, zY, qG, qP, qQ, qR, qS, qT, rowAt, ↓jg, ↓ji, Nat.reduceAdd, Nat.reduceEqDiff, ne_eq, jG, Nat.reduceLT, if_true, ite_true, Int.reduceLE, Int.reduceLT, Int.reduceEq, Int.reduceNeg, Int.reduceAdd, Nat.reduceSub, if_false, ite_false, fs_4.1, g3, g14, r14', l14', g15, vv, g7, r7', l7', g10, r10', l10', n2, n2', n1, n1', kind_pure, kind_load, kind_fresh, kind_other, jg, ji, undef]; first | exact rfl | exact ⟨rfl, rfl, rfl, rfl⟩); try (with_reducible refine calmK_in ?_; decide +kernel)))
    have hH3 : ∀ (o3 : Tr AObj) (q : Nat), nx2 ≤ q → (∀ x, x ≠ q14 → o3.get x = o2.get x) → HeapIn o3 q w2 B2 hs2 := fun o3 q hq hk => hH2.keep hq (fun x hx => Nat.lt_of_lt_of_le (hH2.wlt x hx) hq) fun x hx => ⟨hk x fun e => hx (by rw [e]; exact w14'), rfl⟩
    refine s_do _ (by
      simp (maxDischargeDepth := 6) only [sy3.1, zY, qG, qP, qQ, qR, qS, qT, rowAt, ↓jg, ↓ji, Nat.reduceAdd, Nat.reduceEqDiff, ne_eq, jG, Nat.reduceLT, if_true, ite_true, Int.reduceLE, Int.reduceLT, Int.reduceEq, Int.reduceNeg, Int.reduceAdd, Nat.reduceSub, if_false, ite_false, fs_4.1, g3, g14, g7, r7', l7', g10, r10', n1, n1', n2, n2', ← V.hB, ← hB2]
      refine hset_ok (n := 994) clear14 (hH3 _ _ ?_ fun x hx => ?_) t5 (5, d) (3, 1) (3, .ofNat (i + 1)) (by decide) (by omega) (fun ob2 ho2 => ?_)
      · omega
      · (repeat (first | rw [qE] | rw [qF _ _ _ _ (by omega)]))
      rw [t3] at ho2
      cases ho2
      exact ⟨by rw [t4]; decide, by rw [t4]; decide, fun hn => t10 (fun hh => hn ⟨hh.1, hh.2.1, hh.2.2⟩)⟩) ?_
    rintro v3 H3 ⟨o3, nx3, lg3, w3, B3, heq, hn3, hH4, hB3, hfr3, hmo3, _⟩
    cases heq
    have fr3 : ∀ x, x < nx → w x = 0 → o3.get x = o.get x ∧ w3 x = 0 := fun x hx hw => by
      have a := fr2 x hx hw
      have b := hfr3 x (by omega) a.2
      refine ⟨b.1.trans ?_, b.2⟩
      (repeat (first | rw [qE] | rw [qF _ _ _ _ (by omega)]))
      exact a.1
    have r14q : o3.get q14 = some (.row [.int .u8 5, .int .i64 d] 30 0 true) := (hfr3 q14 (by omega) w14').1.trans (qE _ _ _)
    have w14q := (hfr3 q14 (by omega) w14').2
    have r10q : o3.get q10 = some (.row [.int .u8 3, .int .i64 (.ofNat (i + 1))] 30 0 true) := (hfr3 q10 (by omega) w10').1.trans (by (repeat (first | rw [qE] | rw [qF _ _ _ _ (by omega)])); exact r10')
    have w10q := (hfr3 q10 (by omega) w10').2
    have l14q : q14 < nx3 := by omega
    rcases tc with ⟨c1, c2, c3, c4, c5, c6⟩ | ⟨c1, c2, ob', c3, c4, c5⟩
    · generalize hS : setO hs2 (5, d) (3, 1) (3, .ofNat (i + 1)) = S at *
      obtain ⟨hs3, er3⟩ := S
      simp only at c1 c2 c3 c4 c5 c6 hH4
      repeat (first | with_reducible (first | refine n_on ?_ | refine n_seq ?_ | refine s_else ?_ | refine n_t ?_ | refine n_gt ?_ | refine d_t ?_ | refine n_nil ?_ | refine d_nil ?_ | refine n_block ?_ | refine n_skip ?_ | refine n_bon ?_ | refine n_bback ?_ | refine n_back ?_ | refine n_out ?_ | refine n_bout rfl ?_ | refine n_bfar rfl ?_ | refine n_ret ?_ | refine n_exit ?_ | refine n_label ?_ | refine n_scope ?_ | refine n_son ?_ | refine n_sback ?_) | (with_reducible (first | apply n_region | apply d_region); (simp only [JV, JU, JW, Nat.reduceAdd, Nat.zero_add]; exact rfl)) | (with_reducible (first | apply s_op | apply n_guard | apply n_cond | apply d_guard | apply d_op | apply n_fin | apply n_finb); (simp (maxDischargeDepth := 6) only [sy3.1, zY, qG, qP, qQ, qR, qS, qT, rowAt, ↓jg, ↓ji, Nat.reduceAdd, Nat.reduceEqDiff, ne_eq, jG, Nat.reduceLT, if_true, ite_true, Int.reduceLE, Int.reduceLT, Int.reduceEq, Int.reduceNeg, Int.reduceAdd, Nat.reduceSub, if_false, ite_false, fs_4.1, g3, g14, r14q, l14q, decide_eq_false c1, kind_pure, kind_load, kind_fresh, kind_other, jg, ji, undef]; first | exact rfl | exact ⟨rfl, rfl, rfl, rfl⟩); try (with_reducible refine calmK_in ?_; decide +kernel)))
      refine s_do _ (by
        simp (maxDischargeDepth := 6) only [sy3.1, zY, qG, qP, qQ, qR, qS, qT, rowAt, ↓jg, ↓ji, Nat.reduceAdd, Nat.reduceEqDiff, ne_eq, jG, Nat.reduceLT, if_true, ite_true, Int.reduceLE, Int.reduceLT, Int.reduceEq, Int.reduceNeg, Int.reduceAdd, Nat.reduceSub, if_false, ite_false, fs_4.1, g3, g14, r14q, ← V.hB, ← hB2, ← hB3]
        exact free_ok (n := 995) clear14 (hH4.more (by omega) fun _ _ => rfl) c2 (5, d) (by omega)) ?_
      rintro v4 H4 ⟨o4, nx4, lg4, w4, B4, heq, hn4, hH5, hB4, hfr4, hmo4, _⟩
      cases heq
      rw [c4]
      repeat (first | with_reducible (first | refine n_on ?_ | refine n_seq ?_ | refine s_else ?_ | refine n_t ?_ | refine n_gt ?_ | refine d_t ?_ | refine n_nil ?_ | refine d_nil ?_ | refine n_block ?_ | refine n_skip ?_ | refine n_bon ?_ | refine n_bback ?_ | refine n_back ?_ | refine n_out ?_ | refine n_bout rfl ?_ | refine n_bfar rfl ?_ | refine n_ret ?_ | refine n_exit ?_ | refine n_label ?_ | refine n_scope ?_ | refine n_son ?_ | refine n_sback ?_) | (with_reducible (first | apply n_region | apply d_region); (simp only [JV, JU, JW, Nat.reduceAdd, Nat.zero_add]; exact rfl)) | (with_reducible (first | apply s_op | apply n_guard | apply n_cond | apply d_guard | apply d_op | apply n_fin | apply n_finb); (simp (maxDischargeDepth := 6) only [sy3.1, zY, qG, qP, qQ, qR, qS, qT, rowAt, ↓jg, ↓ji, Nat.reduceAdd, Nat.reduceEqDiff, ne_eq, jG, Nat.reduceLT, if_true, ite_true, Int.reduceLE, Int.reduceLT, Int.reduceEq, Int.reduceNeg, Int.reduceAdd, Nat.reduceSub, if_false, ite_false, fs_4.1, g3, g14, kind_pure, kind_load, kind_fresh, kind_other, jg, ji, undef]; first | exact rfl | exact ⟨rfl, rfl, rfl, rfl⟩); try (with_reducible refine calmK_in ?_; decide +kernel)))
      refine ⟨_, _, _, _, w4, B4, _, (5, d), 152, rfl, ⟨hH5.more (by omega) fun _ _ => rfl, hB4.trans (hB3.trans (hB2.trans V.hB)), by omega, fun x hx hw => ?_, ⟨q14, ?_, by omega, (hfr4 q14 (by omega) w14q).2, p14, (hfr4 q14 (by omega) w14q).1.trans r14q⟩, ?_, ?_, ⟨q10, ?_, by omega, n10', (hfr4 q10 (by omega) w10q).1.trans r10q⟩⟩, ⟨?_, ?_, ?_, ?_, ?_, ?_⟩, c5.wider (by omega), .inl ⟨by decide, c6.trans ho⟩⟩
      · have a := fr3 x hx hw
        have b := hfr4 x (by omega) a.2
        exact ⟨b.1.trans a.1, b.2⟩
      · simp only [qC, qD, qE, qF, Tr.get_nil, ne_eq, not_false_eq_true, Nat.reduceEqDiff, g14]
      · simp only [qC, qD, qE, qF, Tr.get_nil, ne_eq, not_false_eq_true, Nat.reduceEqDiff]
      · intro q q' h1 h2
        simp only [qC, qD, qE, qF, Tr.get_nil, ne_eq, not_false_eq_true, Nat.reduceEqDiff] at h1 h2
        exact V.ne q q' h1 h2
      · simp only [qC, qD, qE, qF, Tr.get_nil, ne_eq, not_false_eq_true, Nat.reduceEqDiff, g10]
      all_goals simp only [qC, qD, qE, qF, Tr.get_nil, ne_eq, not_false_eq_true, Nat.reduceEqDiff, g0, g3, g5, g6, g7, g8]
    · generalize hS : setO hs2 (5, d) (3, 1) (3, .ofNat (i + 1)) = S at *
      obtain ⟨hs3, er3⟩ := S
      simp only at c1 c2 c3 hH4
      subst c1
      repeat (first | with_reducible (first | refine n_on ?_ | refine n_seq ?_ | refine s_else ?_ | refine n_t ?_ | refine n_gt ?_ | refine d_t ?_ | refine n_nil ?_ | refine d_nil ?_ | refine n_block ?_ | refine n_skip ?_ | refine n_bon ?_ | refine n_bback ?_ | refine n_back ?_ | refine n_out ?_ | refine n_bout rfl ?_ | refine n_bfar rfl ?_ | refine n_ret ?_ | refine n_exit ?_ | refine n_label ?_ | refine n_scope ?_ | refine n_son ?_ | refine n_sback ?_) | (with_reducible (first | apply n_region | apply d_region); (simp only [JV, JU, JW, Nat.reduceAdd, Nat.zero_add]; exact rfl)) | (with_reducible (first | apply s_op | apply n_guard | apply n_cond | apply d_guard | apply d_op | apply n_fin | apply n_finb); (simp (maxDischargeDepth := 6) only [sy3.1, zY, qG, qP, qQ, qR, qS, qT, rowAt, ↓jg, ↓ji, Nat.reduceAdd, Nat.reduceEqDiff, ne_eq, jG, Nat.reduceLT, if_true, ite_true, Int.reduceLE, Int.reduceLT, Int.reduceEq, Int.reduceNeg, Int.reduceAdd, Nat.reduceSub, if_false, ite_false, fs_4.1, g3, g14, r14q, l14q, kind_pure, kind_load, kind_fresh, kind_other, jg, ji, undef]; first | exact rfl | exact ⟨rfl, rfl, rfl, rfl⟩); try (with_reducible refine calmK_in ?_; decide +kernel)))
      refine ⟨_, _, _, _, w3, B3, hs3, (5, d), 0, rfl, ⟨hH4.more (by omega) fun _ _ => rfl, hB3.trans (hB2.trans V.hB), by omega, fr3, ⟨q14, ?_, by omega, w14q, p14, r14q⟩, ?_, ?_, ⟨q10, ?_, by omega, n10', r10q⟩⟩, ⟨?_, ?_, ?_, ?_, ?_, ?_⟩, c2.wider (by omega), .inr ⟨rfl, d, ob', by rw [c4], by rw [c3, ho], by rw [← ho]; exact t9, ?_⟩⟩
      · simp only [qC, qD, qE, qF, Tr.get_nil, ne_eq, not_false_eq_true, Nat.reduceEqDiff, g14]
      · simp only [qC, qD, qE, qF, Tr.get_nil, ne_eq, not_false_eq_true, Nat.reduceEqDiff]
      · intro q q' h1 h2
        simp only [qC, qD, qE, qF, Tr.get_nil, ne_eq, not_false_eq_true, Nat.reduceEqDiff] at h1 h2
        exact V.ne q q' h1 h2
      · simp only [qC, qD, qE, qF, Tr.get_nil, ne_eq, not_false_eq_true, Nat.reduceEqDiff, g10]
      · simp only [qC, qD, qE, qF, Tr.get_nil, ne_eq, not_false_eq_true, Nat.reduceEqDiff, g0]
      · simp only [qC, qD, qE, qF, Tr.get_nil, ne_eq, not_false_eq_true, Nat.reduceEqDiff, g3]
      · simp only [qC, qD, qE, qF, Tr.get_nil, ne_eq, not_false_eq_true, Nat.reduceEqDiff, g5]
      · simp only [qC, qD, qE, qF, Tr.get_nil, ne_eq, not_false_eq_true, Nat.reduceEqDiff, g6]
      · simp only [qC, qD, qE, qF, Tr.get_nil, ne_eq, not_false_eq_true, Nat.reduceEqDiff, g7]
      · simp only [qC, qD, qE, qF, Tr.get_nil, ne_eq, not_false_eq_true, Nat.reduceEqDiff, g8]
      · unfold numOf
        rw [if_neg (by rw [c4]; decide), c5]; rfl
end
end Go.Proofs.Ythnlkahgmbadoaa
