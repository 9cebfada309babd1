/- HeapKeeps: a round's switch. -/
import Derived.Test.YthnlkahgmbadoaaHkLaw4
namespace Go.Proofs.Ythnlkahgmbadoaa
open Go.RowKit
set_option linter.unusedSimpArgs false
set_option linter.unusedVariables false
set_option maxRecDepth 100000

section
variable {zs : List (List Value)} {L : HkB} {oa : Option Addr} {cnt i : Nat} {e : Tr Value} {o : Tr AObj} {nx : Nat} {lg : List Nat} {w : Nat → Nat} {B : HB} {hs : HS} {es : List MapEntry} {c : Nat} {sl : Value} {ls : List VV} {k a b c' n : Int} {s : ByteArray} {v : VV} {p : Nat}
set_option maxHeartbeats 32000000 in
theorem hk_c1 (M : HkIn zs L cnt o nx w B hs es c sl ls) (E : HkE zs.length L oa i sl e) (D : HkMid (opCells k a b c' n s) i v p o nx w hs e) (hp : ∀ q, p ≤ q → q ≠ L.mw) (h4 : k < 4) (hcnt : cnt ≤ 150) :
    Got (rCode Try.prog (oCall Try.prog [] O14 999) 999 (hkB2 Try.f4) e ⟨o, nx, lg⟩) fun s => ∃ e' H', s = (.on, e', H') ∧ HkSt zs L oa (cnt + 1) i e' H' := by
  obtain ⟨q9, g9, p9, l9, r9⟩ := D.g9
  obtain ⟨q10, g10, p10, l10, r10⟩ := D.g10
  have g0 := E.g0; have g3 := E.g3; have g5 := E.g5; have g6 := E.g6; have g7 := E.g7; have g8 := E.g8
  have w9 := D.new q9 p9
  have w10 := D.new q10 p10
  have m10 := hp q10 p10
  unfold opCells at r9
  have hsz := M.K.sizes
  have hcn := M.K.count
  have hmd := M.K.made
  have h2 : (2 : Int) ≠ 0 := by decide
  have hU := fun {v0 : VV} {er0 : Int} {e : Tr Value} {o1 : Tr AObj} {nx1 : Nat} {lg1 : List Nat} {w1 : Nat → Nat} {B1 : HB} {hs1 : HS} (E : HkE zs.length L oa i sl e) (V : HkV L i o nx w v0 er0 e o1 nx1 w1 B1 hs1) K1 ho n10 => hk_table (lg1 := lg1) M E V K1 ho hcnt n10
  have hR := fun {e1 : Tr Value} {H1 : AHeap} (h : HkMade zs L oa cnt i o nx w hs sl (.on, e1, H1)) => hk_fin M hcnt h
  show Got (rCode _ _ _ (Code.block _ (Code.seq _ (Code.cond _ (Code.seq _ (Code.seq (Code.seq _ (Code.cond _ (Code.seq _ (hkU Try.f4)) _)) (sqR (sqR (hkC1 Try.f4))))) _))) _ _) _
  generalize sqR (sqR (hkC1 Try.f4)) = R at hR ⊢
  generalize hkU Try.f4 = U at hU ⊢
  repeat (first | with_reducible (first | refine n_on ?_ | refine n_seq ?_ | refine s_else ?_ | refine n_t ?_ | refine n_gt ?_ | refine d_t ?_ | refine n_nil ?_ | refine d_nil ?_ | refine n_block ?_ | refine n_skip ?_ | refine n_bon ?_ | refine n_bback ?_ | refine n_back ?_ | refine n_out ?_ | refine n_bout rfl ?_ | refine n_bfar rfl ?_ | refine n_ret ?_ | refine n_exit ?_ | refine n_label ?_ | refine n_scope ?_ | refine n_son ?_ | refine n_sback ?_) | (with_reducible (first | apply n_region | apply d_region); (simp only [JV, JU, JW, Nat.reduceAdd, Nat.zero_add]; exact rfl)) | (with_reducible (first | apply s_op | apply n_guard | apply n_cond | apply d_guard | apply d_op | apply n_fin | apply n_finb); (simp (maxDischargeDepth := 6) only [sy3.1, zY, qG, qP, qQ, qR, qS, qT, rowAt, ↓jg, ↓ji, Nat.reduceAdd, Nat.reduceEqDiff, ne_eq, jG, Nat.reduceLT, if_true, ite_true, Int.reduceLE, Int.reduceLT, Int.reduceEq, Int.reduceNeg, Int.reduceAdd, Nat.reduceSub, if_false, ite_false, fs_4.1, g3, g9, r9, g10, r10, l9, l10, decide_eq_true h4, kind_pure, kind_load, kind_fresh, kind_other, jg, ji, undef]; first | exact rfl | exact ⟨rfl, rfl, rfl, rfl⟩); try (with_reducible refine calmK_in ?_; decide +kernel)))
  refine s_do _ (by
    simp (maxDischargeDepth := 6) only [sy3.1, zY, qG, qP, qQ, qR, qS, qT, rowAt, ↓jg, ↓ji, Nat.reduceAdd, Nat.reduceEqDiff, ne_eq, jG, Nat.reduceLT, if_true, ite_true, Int.reduceLE, Int.reduceLT, Int.reduceEq, Int.reduceNeg, Int.reduceAdd, Nat.reduceSub, if_false, ite_false, fs_4.1, g3, g10, r10, ← M.hB]
    exact cell_ok (n := 994) clear14 (M.heap.more (by omega) fun _ _ => rfl) M.K.good (3, .ofNat (i + 1)) (by omega) (by omega) (by omega)) ?_
  rintro v1 H1 ⟨o1, nx1, lg1, w1, B1, heq, hn1, hH1, hB1, hfr, hmo, hl⟩
  cases heq
  have hfr' : ∀ x, x < nx → w x = 0 → o1.get x = o.get x ∧ w1 x = 0 := fun x hx hw => hfr x (by omega) hw
  have r9' := (hfr' q9 l9 w9).1.trans r9
  have r10' := (hfr' q10 l10 w10).1.trans r10
  have w10' := (hfr' q10 l10 w10).2
  have l9' : q9 < nx1 := by omega
  have l10' : q10 < nx1 := by omega
  have hwn : ∀ x, nx ≤ x → w x = 0 := fun x hx => by
    by_cases e : w x = 0
    · exact e
    · have := M.heap.wlt x e; omega
  have w14 : w1 (nx + 10) = 0 := (hfr (nx + 10) (by omega) (hwn _ (by omega))).2
  have finR : ∀ {e1 : Tr Value} {H1 : AHeap}, HkMade zs L oa cnt i o nx w hs sl (.on, e1, H1) → Got (rCode Try.prog (oCall Try.prog [] O14 999) 999 R e1 H1) (outOf 2 fun s => ∃ e' H', s = (.on, e', H') ∧ HkSt zs L oa (cnt + 1) i e' H') := fun h => (hR h).mono (by rintro _ ⟨e', H', rfl, hh⟩; exact ⟨e', H', rfl, hh⟩)
  have hE : ∀ e' : Tr Value, e'.get 0 = e.get 0 → e'.get 3 = e.get 3 → e'.get 5 = e.get 5 → e'.get 6 = e.get 6 → e'.get 7 = e.get 7 → e'.get 8 = e.get 8 → HkE zs.length L oa i sl e' := fun e' a b c d f g => ⟨a.trans g0, b.trans g3, c.trans g5, d.trans g6, f.trans g7, g.trans g8⟩
  have hV : ∀ (hs2 : HS) (w2 : Nat → Nat) (B2 : HB) (v : VV) (er : Int) (e' : Tr Value) (o2 : Tr AObj) (nx2 : Nat), HeapIn o2 nx2 w2 B2 hs2 → B2.i = L.bi → nx1 ≤ nx2 → (∀ x, x < nx → w x = 0 → o2.get x = o.get x ∧ w2 x = 0) → w2 (nx + 10) = 0 → o2.get (nx + 10) = some (.row [.int .u8 v.1, .int .i64 v.2] 30 0 true) → e'.get 14 = some (.pointer (some ⟨nx + 10, 0, none⟩)) → e'.get 15 = some (.int .i64 er) → e'.get 10 = e.get 10 → HkV L i o nx w v er e' o2 nx2 w2 B2 hs2 :=
    fun hs2 w2 B2 v er e' o2 nx2 a1 a2 a3 a4 a5 a6 a7 a8 a9 => ⟨a1, a2, by omega, a4, ⟨nx + 10, a7, by omega, a5, by omega, a6⟩, a8, fun q q' h1 h2 => by
      rw [a9, g10] at h1
      rw [a7] at h2
      cases h1; cases h2
      omega, ⟨q10, a9.trans g10, by omega, m10, (a4 q10 l10 w10).1.trans r10⟩⟩
  have finU : ∀ {v0 : VV} {er0 : Int} {e1 : Tr Value} {o2 : Tr AObj} {nx2 : Nat} {lg2 : List Nat} {w2 : Nat → Nat} {B2 : HB} {hs2 : HS}, HkE zs.length L oa i sl e1 → HkV L i o nx w v0 er0 e1 o2 nx2 w2 B2 hs2 → KP hs2 (2 * cnt + 1) → hs2.objs = hs.objs → (w2 q10 = 0) → e1.get 10 = e.get 10 → Got (rCode Try.prog (oCall Try.prog [] O14 999) 999 U e1 ⟨o2, nx2, lg2⟩) (onTo (outOf 2 fun s => ∃ e' H', s = (.on, e', H') ∧ HkSt zs L oa (cnt + 1) i e' H') fun e h => Got (rCode Try.prog (oCall Try.prog [] O14 999) 999 R e h) (outOf 2 fun s => ∃ e' H', s = (.on, e', H') ∧ HkSt zs L oa (cnt + 1) i e' H')) :=
    fun a b c d f g => (hU a b c d (fun q hq => by rw [g, g10] at hq; cases hq; exact f)).mono (by
      rintro s h
      have h' := h
      obtain ⟨e', o3, nx3, lg3, _, _, _, _, _, rfl, _⟩ := h'
      exact finR h)
  rcases kp_cell M.K (by omega) (.ofNat (i + 1)) with ⟨t1, t2⟩ | ⟨t1, t2, d, ob, t3, t4, t5, t6, t7⟩
  · generalize hT : cellO hs (3, .ofNat (i + 1)) = T at *
    obtain ⟨hs1, ⟨vk, vd⟩, er⟩ := T
    simp only at t1 t2 hH1
    subst t2
    by_cases hodd : k.tmod 2 = 1
    · repeat (first | with_reducible (first | refine n_on ?_ | refine n_seq ?_ | refine s_else ?_ | refine n_t ?_ | refine n_gt ?_ | refine d_t ?_ | refine n_nil ?_ | refine d_nil ?_ | refine n_block ?_ | refine n_skip ?_ | refine n_bon ?_ | refine n_bback ?_ | refine n_back ?_ | refine n_out ?_ | refine n_bout rfl ?_ | refine n_bfar rfl ?_ | refine n_ret ?_ | refine n_exit ?_ | refine n_label ?_ | refine n_scope ?_ | refine n_son ?_ | refine n_sback ?_) | (with_reducible (first | apply n_region | apply d_region); (simp only [JV, JU, JW, Nat.reduceAdd, Nat.zero_add]; exact rfl)) | (with_reducible (first | apply s_op | apply n_guard | apply n_cond | apply d_guard | apply d_op | apply n_fin | apply n_finb); (simp (maxDischargeDepth := 6) only [sy3.1, zY, qG, qP, qQ, qR, qS, qT, rowAt, ↓jg, ↓ji, Nat.reduceAdd, Nat.reduceEqDiff, ne_eq, jG, Nat.reduceLT, if_true, ite_true, Int.reduceLE, Int.reduceLT, Int.reduceEq, Int.reduceNeg, Int.reduceAdd, Nat.reduceSub, if_false, ite_false, fs_4.1, g3, g9, r9', l9, l9', vv, b_rem h2, decide_eq_true hodd, decide_eq_false t1, kind_pure, kind_load, kind_fresh, kind_other, jg, ji, undef]; first | exact rfl | exact ⟨rfl, rfl, rfl, rfl⟩); try (with_reducible refine calmK_in ?_; decide +kernel)))
      refine finU (hE _ ?_ ?_ ?_ ?_ ?_ ?_) (hV hs1 w1 B1 (vk, vd) er _ _ _ (hH1.keep (by omega) (fun x hx => by have := hH1.wlt x hx; omega) fun x hx => ⟨?_, rfl⟩) (hB1.trans M.hB) (by omega) (fun x hx hw => ⟨?_, (hfr' x hx hw).2⟩) w14 (qE _ _ _) ?_ ?_ ?_) (M.K.wider (by omega)) rfl w10' ?_
      rotate_left 6
      · have v1 : x ≠ nx + 10 := fun e => hx (by rw [e]; exact w14)
        (repeat (first | rw [qE] | rw [qF _ _ _ _ (by omega)]))
      · have := hfr' x hx hw
        (repeat (first | rw [qE] | rw [qF _ _ _ _ (by omega)]))
        exact this.1
      all_goals simp only [qC, qD, qE, qF, Tr.get_nil, ne_eq, not_false_eq_true, Nat.reduceEqDiff]
    · repeat (first | with_reducible (first | refine n_on ?_ | refine n_seq ?_ | refine s_else ?_ | refine n_t ?_ | refine n_gt ?_ | refine d_t ?_ | refine n_nil ?_ | refine d_nil ?_ | refine n_block ?_ | refine n_skip ?_ | refine n_bon ?_ | refine n_bback ?_ | refine n_back ?_ | refine n_out ?_ | refine n_bout rfl ?_ | refine n_bfar rfl ?_ | refine n_ret ?_ | refine n_exit ?_ | refine n_label ?_ | refine n_scope ?_ | refine n_son ?_ | refine n_sback ?_) | (with_reducible (first | apply n_region | apply d_region); (simp only [JV, JU, JW, Nat.reduceAdd, Nat.zero_add]; exact rfl)) | (with_reducible (first | apply s_op | apply n_guard | apply n_cond | apply d_guard | apply d_op | apply n_fin | apply n_finb); (simp (maxDischargeDepth := 6) only [sy3.1, zY, qG, qP, qQ, qR, qS, qT, rowAt, ↓jg, ↓ji, Nat.reduceAdd, Nat.reduceEqDiff, ne_eq, jG, Nat.reduceLT, if_true, ite_true, Int.reduceLE, Int.reduceLT, Int.reduceEq, Int.reduceNeg, Int.reduceAdd, Nat.reduceSub, if_false, ite_false, fs_4.1, g3, g9, r9', l9, l9', vv, b_rem h2, decide_eq_false hodd, decide_eq_false t1, kind_pure, kind_load, kind_fresh, kind_other, jg, ji, undef]; first | exact rfl | exact ⟨rfl, rfl, rfl, rfl⟩); try (with_reducible refine calmK_in ?_; decide +kernel)))
      refine finR ⟨_, _, _, _, w1, B1, hs1, (vk, vd), er, rfl, hV hs1 w1 B1 (vk, vd) er _ _ _ (hH1.keep (by omega) (fun x hx => by have := hH1.wlt x hx; omega) fun x hx => ⟨?_, rfl⟩) (hB1.trans M.hB) (by omega) (fun x hx hw => ⟨?_, (hfr' x hx hw).2⟩) w14 (qE _ _ _) ?_ ?_ ?_, hE _ ?_ ?_ ?_ ?_ ?_ ?_, M.K.wider (by omega), .inl ⟨t1, rfl⟩⟩
      · have v1 : x ≠ nx + 10 := fun e => hx (by rw [e]; exact w14)
        (repeat (first | rw [qE] | rw [qF _ _ _ _ (by omega)]))
      · have := hfr' x hx hw
        (repeat (first | rw [qE] | rw [qF _ _ _ _ (by omega)]))
        exact this.1
      all_goals simp only [qC, qD, qE, qF, Tr.get_nil, ne_eq, not_false_eq_true, Nat.reduceEqDiff]
  · generalize hT : cellO hs (3, .ofNat (i + 1)) = T at *
    obtain ⟨hs1, ⟨vk, vd⟩, er⟩ := T
    simp only at t1 t2 t3 t4 hH1
    subst t1
    cases t3
    by_cases hodd : k.tmod 2 = 1
    · repeat (first | with_reducible (first | refine n_on ?_ | refine n_seq ?_ | refine s_else ?_ | refine n_t ?_ | refine n_gt ?_ | refine d_t ?_ | refine n_nil ?_ | refine d_nil ?_ | refine n_block ?_ | refine n_skip ?_ | refine n_bon ?_ | refine n_bback ?_ | refine n_back ?_ | refine n_out ?_ | refine n_bout rfl ?_ | refine n_bfar rfl ?_ | refine n_ret ?_ | refine n_exit ?_ | refine n_label ?_ | refine n_scope ?_ | refine n_son ?_ | refine n_sback ?_) | (with_reducible (first | apply n_region | apply d_region); (simp only [JV, JU, JW, Nat.reduceAdd, Nat.zero_add]; exact rfl)) | (with_reducible (first | apply s_op | apply n_guard | apply n_cond | apply d_guard | apply d_op | apply n_fin | apply n_finb); (simp (maxDischargeDepth := 6) only [sy3.1, zY, qG, qP, qQ, qR, qS, qT, rowAt, ↓jg, ↓ji, Nat.reduceAdd, Nat.reduceEqDiff, ne_eq, jG, Nat.reduceLT, if_true, ite_true, Int.reduceLE, Int.reduceLT, Int.reduceEq, Int.reduceNeg, Int.reduceAdd, Nat.reduceSub, if_false, ite_false, fs_4.1, g3, g9, r9', l9, l9', vv, b_rem h2, decide_eq_true hodd, kind_pure, kind_load, kind_fresh, kind_other, jg, ji, undef]; first | exact rfl | exact ⟨rfl, rfl, rfl, rfl⟩); try (with_reducible refine calmK_in ?_; decide +kernel)))
      have hH1' := hH1.keep (o' := ((o1.put (nx + 10) (some (.row [.int .u8 0, .int .i64 0] 30 0 true))).put (nx + 10) (some (.row [.int .u8 9, .int .i64 0] 30 0 true))).put (nx + 10) (some (.row [.int .u8 9, .int .i64 d] 30 0 true))) (nx' := nx1) (w' := w1) (Nat.le_refl _) hH1.wlt fun x hx => ⟨by
        have v1 : x ≠ nx + 10 := fun e => hx (by rw [e]; exact w14)
        (repeat (first | rw [qE] | rw [qF _ _ _ _ (by omega)])), rfl⟩
      obtain ⟨f1, f2, f3⟩ := kp_gone t2 t4 t7
      rw [t5] at f1 f2 f3
      have hs1z := t2.sizes
      refine s_do _ (by
        simp (maxDischargeDepth := 6) only [sy3.1, zY, qG, qP, qQ, qR, qS, qT, rowAt, ↓jg, ↓ji, Nat.reduceAdd, Nat.reduceEqDiff, ne_eq, jG, Nat.reduceLT, if_true, ite_true, Int.reduceLE, Int.reduceLT, Int.reduceEq, Int.reduceNeg, Int.reduceAdd, Nat.reduceSub, if_false, ite_false, fs_4.1, g3, l9, ← M.hB, ← hB1]
        exact free_ok (n := 995) clear14 (hH1'.more (by omega) fun _ _ => rfl) t2.good (9, d) (by omega)) ?_
      rintro v2 H2 ⟨o2, nx2, lg2, w2, B2, heq, hn2, hH2, hB2, hfr2, hmo2, _⟩
      cases heq
      rw [f1]
      repeat (first | with_reducible (first | refine n_on ?_ | refine n_seq ?_ | refine s_else ?_ | refine n_t ?_ | refine n_gt ?_ | refine d_t ?_ | refine n_nil ?_ | refine d_nil ?_ | refine n_block ?_ | refine n_skip ?_ | refine n_bon ?_ | refine n_bback ?_ | refine n_back ?_ | refine n_out ?_ | refine n_bout rfl ?_ | refine n_bfar rfl ?_ | refine n_ret ?_ | refine n_exit ?_ | refine n_label ?_ | refine n_scope ?_ | refine n_son ?_ | refine n_sback ?_) | (with_reducible (first | apply n_region | apply d_region); (simp only [JV, JU, JW, Nat.reduceAdd, Nat.zero_add]; exact rfl)) | (with_reducible (first | apply s_op | apply n_guard | apply n_cond | apply d_guard | apply d_op | apply n_fin | apply n_finb); (simp (maxDischargeDepth := 6) only [sy3.1, zY, qG, qP, qQ, qR, qS, qT, rowAt, ↓jg, ↓ji, Nat.reduceAdd, Nat.reduceEqDiff, ne_eq, jG, Nat.reduceLT, if_true, ite_true, Int.reduceLE, Int.reduceLT, Int.reduceEq, Int.reduceNeg, Int.reduceAdd, Nat.reduceSub, if_false, ite_false, fs_4.1, g3, kind_pure, kind_load, kind_fresh, kind_other, jg, ji, undef]; first | exact rfl | exact ⟨rfl, rfl, rfl, rfl⟩); try (with_reducible refine calmK_in ?_; decide +kernel)))
      refine finU (hE _ ?_ ?_ ?_ ?_ ?_ ?_) (hV _ w2 B2 (9, d) 0 _ _ _ (hH2.more (by omega) fun _ _ => rfl) (hB2.trans (hB1.trans M.hB)) (by omega) (fun x hx hw => ?_) (hfr2 _ (by omega) w14).2 ((hfr2 _ (by omega) w14).1.trans (qE _ _ _)) ?_ ?_ ?_) f2 f3 (hfr2 q10 (by omega) w10').2 ?_
      rotate_left 6
      · have a := hfr' x hx hw
        have b := hfr2 x (by omega) a.2
        refine ⟨b.1.trans ?_, b.2⟩
        (repeat (first | rw [qE] | rw [qF _ _ _ _ (by omega)]))
        exact a.1
      all_goals simp only [qC, qD, qE, qF, Tr.get_nil, ne_eq, not_false_eq_true, Nat.reduceEqDiff]
    · repeat (first | with_reducible (first | refine n_on ?_ | refine n_seq ?_ | refine s_else ?_ | refine n_t ?_ | refine n_gt ?_ | refine d_t ?_ | refine n_nil ?_ | refine d_nil ?_ | refine n_block ?_ | refine n_skip ?_ | refine n_bon ?_ | refine n_bback ?_ | refine n_back ?_ | refine n_out ?_ | refine n_bout rfl ?_ | refine n_bfar rfl ?_ | refine n_ret ?_ | refine n_exit ?_ | refine n_label ?_ | refine n_scope ?_ | refine n_son ?_ | refine n_sback ?_) | (with_reducible (first | apply n_region | apply d_region); (simp only [JV, JU, JW, Nat.reduceAdd, Nat.zero_add]; exact rfl)) | (with_reducible (first | apply s_op | apply n_guard | apply n_cond | apply d_guard | apply d_op | apply n_fin | apply n_finb); (simp (maxDischargeDepth := 6) only [sy3.1, zY, qG, qP, qQ, qR, qS, qT, rowAt, ↓jg, ↓ji, Nat.reduceAdd, Nat.reduceEqDiff, ne_eq, jG, Nat.reduceLT, if_true, ite_true, Int.reduceLE, Int.reduceLT, Int.reduceEq, Int.reduceNeg, Int.reduceAdd, Nat.reduceSub, if_false, ite_false, fs_4.1, g3, g9, r9', l9, l9', vv, b_rem h2, decide_eq_false hodd, kind_pure, kind_load, kind_fresh, kind_other, jg, ji, undef]; first | exact rfl | exact ⟨rfl, rfl, rfl, rfl⟩); try (with_reducible refine calmK_in ?_; decide +kernel)))
      refine finR ⟨_, _, _, _, w1, B1, hs1, (9, d), 0, rfl, hV hs1 w1 B1 (9, d) 0 _ _ _ (hH1.keep (by omega) (fun x hx => by have := hH1.wlt x hx; omega) fun x hx => ⟨?_, rfl⟩) (hB1.trans M.hB) (by omega) (fun x hx hw => ⟨?_, (hfr' x hx hw).2⟩) w14 (qE _ _ _) ?_ ?_ ?_, hE _ ?_ ?_ ?_ ?_ ?_ ?_, t2.wider (by omega), .inr ⟨rfl, d, ob, by rw [t5], t4, t7, ?_⟩⟩
      · have v1 : x ≠ nx + 10 := fun e => hx (by rw [e]; exact w14)
        (repeat (first | rw [qE] | rw [qF _ _ _ _ (by omega)]))
      · have := hfr' x hx hw
        (repeat (first | rw [qE] | rw [qF _ _ _ _ (by omega)]))
        exact this.1
      rotate_right
      · unfold numOf
        rw [if_pos t5, t6]
      all_goals simp only [qC, qD, qE, qF, Tr.get_nil, ne_eq, not_false_eq_true, Nat.reduceEqDiff]
end
end Go.Proofs.Ythnlkahgmbadoaa
