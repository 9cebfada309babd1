/- PoolPlays: one call of the script, on both sides. -/
import Derived.Test.YticeabhilkceiaaPlI
namespace Go.Proofs.Yticeabhilkceiaa
open Go.RowKit
set_option linter.unusedSimpArgs false
set_option linter.unusedVariables false
set_option maxRecDepth 100000

theorem take_bound (st : PS) (s : Int) : (takeP st s).1.bound = st.bound := by
  unfold takeP
  split
  · rfl
  · split
    · rfl
    · split <;> rfl
theorem give_bound (st : PS) (s : Int) : (giveP st s).1.bound = st.bound := by unfold giveP; split <;> rfl
theorem resize_bound (st : PS) (i s : Int) : (resizeP st i s).1.bound = st.bound := by
  unfold resizeP
  split
  · rfl
  · split <;> rfl
theorem take_len (st : PS) (s : Int) : (takeP st s).1.sizes.length ≤ st.sizes.length + 1 := by
  unfold takeP
  split
  · simp
  · split
    · simp
    · split <;> simp
theorem give_len (st : PS) (s : Int) : (giveP st s).1.sizes.length = st.sizes.length := by unfold giveP; split <;> simp
theorem resize_len (st : PS) (i s : Int) : (resizeP st i s).1.sizes.length = st.sizes.length := by
  unfold resizeP
  split
  · rfl
  · split <;> simp
theorem pres_nn (l : List Int) : ∀ s ∈ pres l, 0 ≤ s := fun s hs => by simpa using (List.mem_filter.1 hs).2
theorem pres_len (l : List Int) : (pres l).length ≤ l.length := List.length_filter_le _ _
theorem good_refs {st : PS} (hG : Good st) : (idsP st).length = (pres st.sizes).length ∧ sumL (pres st.sizes) ≤ st.bound := ⟨ids_len _ _, by rw [sum_pres, ← hG.used]; exact hG.le⟩
section
variable {O : Helps} {n : Nat} {o : Tr AObj} {nx : Nat} {lg : List Nat} {a b : Option Nat} {bd : Int} {ids sizes : List Int}
theorem rtake_ok (hO : Clear O) (ha : RIn o nx a ids) (hb : RIn o nx b sizes) (hls : ids.length = sizes.length) (hl : ids.length ≤ 1000) (h0 : ∀ s ∈ sizes, 0 ≤ s) (hs : sumL sizes ≤ bd) (hbd : bd ≤ 1073741824) (hb0 : 0 ≤ bd) (hn : ids.length < n) (size : Int) :
    Got (oCall Try.prog [] O (n + 3) 8 [rpV bd a b ids sizes, .int .i64 size] ⟨o, nx, lg⟩) (RpTo o nx lg a b bd (takeL bd ids sizes size).1.1 (takeL bd ids sizes size).1.2 (mk3 (takeL bd ids sizes size).2.1 (takeL bd ids sizes size).2.2)) := by
  rcases ha with ⟨rfl, rfl⟩ | ⟨j, rfl, hj, hne, hra⟩
  · have hz : sizes = [] := List.eq_nil_of_length_eq_zero hls.symm
    subst hz
    rcases hb with ⟨rfl, _⟩ | ⟨_, _, _, h, _⟩
    · exact rtake_nil hO hbd hb0 size
    · exact absurd rfl h
  · rcases hb with ⟨_, rfl⟩ | ⟨j2, rfl, hj2, hne2, hrb⟩
    · exact absurd (List.eq_nil_of_length_eq_zero hls) hne
    · exact rtake_cons hO hj hj2 hra hrb hne hls hl h0 hs hbd hn size
end
theorem rp_new_blocks {nx : Nat} {a0 b0 a' b' : Option Nat} (h1 : a' = a0 ∨ ∀ q, a' = some q → nx ≤ q) (h2 : b' = b0 ∨ ∀ q, b' = some q → nx ≤ q) : ∀ x, (a' = some x ∨ b' = some x) → (a0 = some x ∨ b0 = some x) ∨ nx ≤ x := by
  rintro x (e | e)
  · rcases h1 with rfl | h1
    · exact .inl (.inl e)
    · exact .inr (h1 x e)
  · rcases h2 with rfl | h2
    · exact .inl (.inr e)
    · exact .inr (h2 x e)
section
variable {z : List Value} {kw : Nat} {oa : Option Addr} {len i r : Nat} {kd id size : Int} {e : Tr Value} {H : AHeap}
set_option maxHeartbeats 32000000 in
theorem pl_c1 (h : PSt1 z kw oa len i r kd id size e H) (hr : r < 60) :
    Got (rCode Try.prog (oCall Try.prog [] O12 999) 999 (plC1 Try.f3) e H) fun s => ∃ e' H', s = (Way.on, e', H') ∧ PSt2 z kw oa len i (r + 1) kd id size e' H' := by
  have hO := clear12
  obtain ⟨o, nx, lg, ip, a, b, st, ra, rb, k10, rfl, M, hG, hsl, E, g10, hrow10, hk10, hm10, hw10⟩ := h
  have g1 := E.g1; have g5 := E.g5; have g7 := E.g7; have g9 := E.g9
  obtain ⟨hrl, hrs⟩ := good_refs hG
  have hil : (idsP st).length ≤ 60 := by rw [hrl]; have := pres_len st.sizes; omega
  refine n_seq ?_
  repeat (first | with_reducible (first | refine n_on ?_ | refine n_seq ?_ | refine s_else ?_ | refine n_t ?_ | refine n_gt ?_ | refine d_t ?_ | refine n_nil ?_ | refine d_nil ?_ | refine n_block ?_ | refine n_skip ?_ | refine n_bon ?_ | refine n_bback ?_ | refine n_back ?_ | refine n_out ?_ | refine n_bout rfl ?_ | refine n_bfar rfl ?_ | refine n_ret ?_ | refine n_exit ?_ | refine n_label ?_ | refine n_scope ?_ | refine n_son ?_ | refine n_sback ?_) | (with_reducible (first | apply n_region | apply d_region); (simp only [JV, JU, JW, Nat.reduceAdd, Nat.zero_add]; exact rfl)) | (with_reducible (first | apply s_op | apply n_guard | apply n_cond | apply d_guard | apply d_op | apply n_fin | apply n_finb); (simp (maxDischargeDepth := 6) only [sy3.1, zY, qG, qP, qQ, qR, qS, qT, rowAt, ↓jg, ↓ji, Nat.reduceAdd, Nat.reduceEqDiff, ne_eq, jG, Nat.reduceLT, if_true, ite_true, Int.reduceLE, Int.reduceLT, Int.reduceEq, Int.reduceNeg, Int.reduceAdd, Nat.reduceSub, if_false, ite_false, fs_3.1, g1, g5, g7, g9, g10, hrow10, hk10, kind_pure, kind_load, kind_fresh, kind_other, jg, ji, undef]; first | exact rfl | exact ⟨rfl, rfl, rfl, rfl⟩); try (with_reducible refine calmK_in ?_; decide +kernel)))
  refine s_do _ (by
    simp (maxDischargeDepth := 6) only [sy3.1, zY, qG, qP, qQ, qR, qS, qT, rowAt, ↓jg, ↓ji, Nat.reduceAdd, Nat.reduceEqDiff, ne_eq, jG, Nat.reduceLT, if_true, ite_true, Int.reduceLE, Int.reduceLT, Int.reduceEq, Int.reduceNeg, Int.reduceAdd, Nat.reduceSub, if_false, ite_false, fs_3.1]
    exact ptake_ok (n := 996) hO (M.pool.more (by omega) fun _ _ => rfl) hG size (by omega)) ?_
  rintro v1 ⟨o1, nx1, lg1⟩ ⟨_, _, _, a1, b1, heq, p1, p2, p3, p4, p5, _, _⟩
  cases heq
  have M1 := M.turn (by omega) p2 (take_bound st size) (fun x hx hm => p3 x (by omega) hm) (fun x hx => (mine_turn p4 p5 x hx).imp (fun h => h) (Nat.le_trans (by omega)))
  have hw1 := M1.wrow
  rw [take_bound] at hw1
  have hltw1 := M1.ltw
  have hrow1 := (p3 k10 (by omega) hm10).trans hrow10
  have hk1 : k10 < nx1 := by omega
  repeat (first | with_reducible (first | refine n_on ?_ | refine n_seq ?_ | refine s_else ?_ | refine n_t ?_ | refine n_gt ?_ | refine d_t ?_ | refine n_nil ?_ | refine d_nil ?_ | refine n_block ?_ | refine n_skip ?_ | refine n_bon ?_ | refine n_bback ?_ | refine n_back ?_ | refine n_out ?_ | refine n_bout rfl ?_ | refine n_bfar rfl ?_ | refine n_ret ?_ | refine n_exit ?_ | refine n_label ?_ | refine n_scope ?_ | refine n_son ?_ | refine n_sback ?_) | (with_reducible (first | apply n_region | apply d_region); (simp only [JV, JU, JW, Nat.reduceAdd, Nat.zero_add]; exact rfl)) | (with_reducible (first | apply s_op | apply n_guard | apply n_cond | apply d_guard | apply d_op | apply n_fin | apply n_finb); (simp (maxDischargeDepth := 6) only [sy3.1, zY, qG, qP, qQ, qR, qS, qT, rowAt, ↓jg, ↓ji, Nat.reduceAdd, Nat.reduceEqDiff, ne_eq, jG, Nat.reduceLT, if_true, ite_true, Int.reduceLE, Int.reduceLT, Int.reduceEq, Int.reduceNeg, Int.reduceAdd, Nat.reduceSub, if_false, ite_false, fs_3.1, g1, g5, g7, g9, g10, hrow1, hk1, hw1, hltw1, kind_pure, kind_load, kind_fresh, kind_other, jg, ji, undef]; first | exact rfl | exact ⟨rfl, rfl, rfl, rfl⟩); try (with_reducible refine calmK_in ?_; decide +kernel)))
  have hT := rtake_ok (n := 996) (nx := nx1 + 11) (lg := lg1) hO (M1.more (nx' := nx1 + 11) (by omega) fun _ _ => rfl).lra (M1.more (nx' := nx1 + 11) (by omega) fun _ _ => rfl).lrb hrl (by omega) (pres_nn _) hrs hG.b1 hG.b0 (by omega) size
  rw [take_rel hG size] at hT
  have hGT := hG.take size
  have hlT := take_len st size
  have hbT := take_bound st size
  generalize takeP st size = T at *
  obtain ⟨T1, T2, T3⟩ := T
  simp only at *
  refine s_do _ (by
    simp (maxDischargeDepth := 6) only [sy3.1, zY, qG, qP, qQ, qR, qS, qT, rowAt, ↓jg, ↓ji, Nat.reduceAdd, Nat.reduceEqDiff, ne_eq, jG, Nat.reduceLT, if_true, ite_true, Int.reduceLE, Int.reduceLT, Int.reduceEq, Int.reduceNeg, Int.reduceAdd, Nat.reduceSub, if_false, ite_false, fs_3.1]
    exact hT) ?_
  rintro v2 ⟨o2, nx2, lg2⟩ ⟨_, _, ra2, rb2, heq, q1, q2, q3, q4, q5, q6⟩
  cases heq
  have hw2 := (q4 kw (by omega)).trans hw1
  have hltw2 : kw < nx2 := by omega
  have hxx : decide (T2 = T2) = true := decide_eq_true rfl
  repeat (first | with_reducible (first | refine n_on ?_ | refine n_seq ?_ | refine s_else ?_ | refine n_t ?_ | refine n_gt ?_ | refine d_t ?_ | refine n_nil ?_ | refine d_nil ?_ | refine n_block ?_ | refine n_skip ?_ | refine n_bon ?_ | refine n_bback ?_ | refine n_back ?_ | refine n_out ?_ | refine n_bout rfl ?_ | refine n_bfar rfl ?_ | refine n_ret ?_ | refine n_exit ?_ | refine n_label ?_ | refine n_scope ?_ | refine n_son ?_ | refine n_sback ?_) | (with_reducible (first | apply n_region | apply d_region); (simp only [JV, JU, JW, Nat.reduceAdd, Nat.zero_add]; exact rfl)) | (with_reducible (first | apply s_op | apply n_guard | apply n_cond | apply d_guard | apply d_op | apply n_fin | apply n_finb); (simp (maxDischargeDepth := 6) only [sy3.1, zY, qG, qP, qQ, qR, qS, qT, rowAt, ↓jg, ↓ji, Nat.reduceAdd, Nat.reduceEqDiff, ne_eq, jG, Nat.reduceLT, if_true, ite_true, Int.reduceLE, Int.reduceLT, Int.reduceEq, Int.reduceNeg, Int.reduceAdd, Nat.reduceSub, if_false, ite_false, fs_3.1, g1, g5, g7, g9, g10, hw2, hltw2, hxx, rpV, kind_pure, kind_load, kind_fresh, kind_other, jg, ji, undef]; first | exact rfl | exact ⟨rfl, rfl, rfl, rfl⟩); try (with_reducible refine calmK_in ?_; decide +kernel)))
  refine ⟨_, _, rfl, ⟨_, _, _, ip, a1, b1, T1, ra2, rb2, k10, rfl, M1.ref (by omega) (by omega) q2 q3 (fun x hx => q4 x (by omega)) (fun x hx => (rp_new_blocks q5 q6 x hx).imp (fun h => h) (Nat.le_trans (by omega))) (by (repeat (first | rw [qE] | rw [qF _ _ _ _ (by omega)])); rw [hbT]) (fun x hx hne => by (repeat (first | rw [qE] | rw [qF _ _ _ _ (by omega)]))), hGT, by omega, E.turn ?_ ?_ ?_ ?_, ?_, ?_, by omega, ?_, hw10⟩, T3, ?_, ?_⟩
  · simp only [qC, qD, qE, qF, Tr.get_nil, ne_eq, not_false_eq_true, Nat.reduceEqDiff]
  · simp only [qC, qD, qE, qF, Tr.get_nil, ne_eq, not_false_eq_true, Nat.reduceEqDiff]
  · simp only [qC, qD, qE, qF, Tr.get_nil, ne_eq, not_false_eq_true, Nat.reduceEqDiff]
  · simp only [qC, qD, qE, qF, Tr.get_nil, ne_eq, not_false_eq_true, Nat.reduceEqDiff]
  · simp only [qC, qD, qE, qF, Tr.get_nil, ne_eq, not_false_eq_true, Nat.reduceEqDiff, g10]
  · (repeat (first | rw [qE] | rw [qF _ _ _ _ (by omega)]))
    rw [q4 k10 (by omega)]; exact hrow1
  · exact fun hm => (mine_turn p4 p5 _ hm).elim hm10 (fun h => by omega)
  · simp only [qC, qD, qE, qF, Tr.get_nil, ne_eq, not_false_eq_true, Nat.reduceEqDiff]
  · simp only [qC, qD, qE, qF, Tr.get_nil, ne_eq, not_false_eq_true, Nat.reduceEqDiff]
end
end Go.Proofs.Yticeabhilkceiaa
