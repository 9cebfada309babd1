/- Pool: Copy, on the abstract machine. -/
import Derived.Test.YticeabhilkceiaaPlG
namespace Go.Proofs.Yticeabhilkceiaa
open Go.RowKit
set_option linter.unusedSimpArgs false
set_option linter.unusedVariables false
set_option maxRecDepth 100000

def CopyTo (o : Tr AObj) (nx : Nat) (lg : List Nat) (st : PS) (r : Value × AHeap) : Prop :=
  ∃ o' nx' i' a' b', r = (.pointer (some ⟨i', 0, none⟩), ⟨o', nx', lg⟩) ∧ nx ≤ nx' ∧ (∀ q, PMine i' a' b' q → nx ≤ q) ∧ PoolIn o' nx' i' a' b' st ∧ ∀ x, x < nx → o'.get x = o.get x
section
variable {O : Helps} {n : Nat} {o : Tr AObj} {nx : Nat} {lg : List Nat} {i : Nat} {a b : Option Nat} {st : PS}
theorem iclone_kind {o2 : Tr AObj} {m : Nat} {a : Option Nat} {xs : List Int} {r : Value × AHeap} (h : IClone o2 m [] a xs r) : kindOf (.other (Nat.beq m r.2.next && r.2.log.isEmpty) r.2.log) = cond a.isNone 2 3 := by
  obtain ⟨ca, cc, o', nx', rfl, h1, h2, h3, h4, h5, h6, h7, h8⟩ := h
  show cond (List.isEmpty ([] : List Nat)) (cond (Nat.beq m nx' && true) 2 3) 4 = _
  cases a with
  | none => rw [h7 rfl, Nat.beq_refl]; rfl
  | some j =>
    have := h6 (by simp)
    have e : Nat.beq m nx' = false := by
      cases e : Nat.beq m nx' with
      | false => rfl
      | true => have := Nat.eq_of_beq_eq_true e; omega
    rw [e]; rfl
set_option maxHeartbeats 32000000 in
theorem pcopy_ok (hO : Clear O) (h : PoolIn o nx i a b st) (hl : st.sizes.length ≤ 65536) (hfl : st.free.length ≤ 65536) : Got (oCall Try.prog [] O (n + 2) 13 [.pointer (some ⟨i, 0, none⟩)] ⟨o, nx, lg⟩) (CopyTo o nx lg st) := by
  obtain ⟨z, cf, hr, hcf⟩ := h.row
  have hi := h.lt
  rw [y_fn (rs := [.tmp 2]) (hO _ (by decide)) Try.func13 rfl (by kernel_rfl) rfl rfl]
  obtain ⟨k1, hk1⟩ : ∃ k1, k1 = cond a.isNone 2 3 := ⟨_, rfl⟩
  obtain ⟨k2, hk2⟩ : ∃ k2, k2 = cond b.isNone 2 3 := ⟨_, rfl⟩
  have hk1' : k1 = 2 ∨ k1 = 3 := by rw [hk1]; cases a <;> simp
  have hk2' : k2 = 2 ∨ k2 = 3 := by rw [hk2]; cases b <;> simp
  repeat (first | with_reducible (first | refine n_on ?_ | refine n_seq ?_ | refine s_else ?_ | refine n_t ?_ | refine n_gt ?_ | refine d_t ?_ | refine n_nil ?_ | refine d_nil ?_ | refine n_block ?_ | refine n_skip ?_ | refine n_bon ?_ | refine n_bback ?_ | refine n_back ?_ | refine n_out ?_ | refine n_bout rfl ?_ | refine n_bfar rfl ?_ | refine n_ret ?_ | refine n_exit ?_ | refine n_label ?_ | refine n_scope ?_ | refine n_son ?_ | refine n_sback ?_) | (with_reducible (first | apply n_region | apply d_region); (simp only [JV, JU, JW, Nat.reduceAdd, Nat.zero_add]; exact rfl)) | (with_reducible (first | apply s_op | apply n_guard | apply n_cond | apply d_guard | apply d_op | apply n_fin | apply n_finb); (simp (maxDischargeDepth := 6) only [sy3.1, zY, qG, qP, qQ, qR, qS, qT, rowAt, ↓jg, ↓ji, Nat.reduceAdd, Nat.reduceEqDiff, ne_eq, jG, Nat.reduceLT, if_true, ite_true, Int.reduceLE, Int.reduceLT, Int.reduceEq, Int.reduceNeg, Int.reduceAdd, Nat.reduceSub, if_false, ite_false, fs_13.1, hr, hi, pnone_ok hO hr, kind_pure, kind_load, kind_fresh, kind_other, jg, ji, undef]; first | exact rfl | exact ⟨rfl, rfl, rfl, rfl⟩); try (with_reducible refine calmK_in ?_; decide +kernel)))
  obtain ⟨O1, hO1⟩ : ∃ O1, O1 = (((((((o.put (nx + 6) (some (.row [.bool false, .int .i64 0, .int .i64 0, .int .i64 0, .slice none 0 0, .slice none 0 0] 50 0 true))).put (nx + 6) (some (.row [.bool true, .int .i64 0, .int .i64 0, .int .i64 0, .slice none 0 0, .slice none 0 0] 50 0 true))).put (nx + 6) (some (.row [.bool true, .int .i64 st.bound, .int .i64 0, .int .i64 0, .slice none 0 0, .slice none 0 0] 50 0 true))).put (nx + 6) (some (.row [.bool true, .int .i64 st.bound, .int .i64 st.used, .int .i64 0, .slice none 0 0, .slice none 0 0] 50 0 true))).put (nx + 6) (some (.row [.bool true, .int .i64 st.bound, .int .i64 st.used, .int .i64 st.count, .slice none 0 0, .slice none 0 0] 50 0 true))).put (nx + 6) (some (.row [.bool true, .int .i64 st.bound, .int .i64 st.used, .int .i64 st.count, .slice (slA a) st.sizes.length 0, .slice none 0 0] 50 0 true))).put (nx + 6) (some (.row [.bool true, .int .i64 st.bound, .int .i64 st.used, .int .i64 st.count, .slice (slA a) st.sizes.length 0, .slice (slA b) st.free.length cf] 50 0 true))) := ⟨_, rfl⟩
  rw [← hO1]
  have hold : ∀ x, x < nx → O1.get x = o.get x := fun x hx => by rw [hO1]; (repeat (first | rw [qE] | rw [qF _ _ _ _ (by omega)]))
  have hnew : O1.get (nx + 6) = some (.row [.bool true, .int .i64 st.bound, .int .i64 st.used, .int .i64 st.count, .slice (slA a) st.sizes.length 0, .slice (slA b) st.free.length cf] 50 0 true) := by rw [hO1]; (repeat (first | rw [qE] | rw [qF _ _ _ _ (by omega)]))
  clear hO1
  have hS := h.more (o' := O1) (nx' := nx + 22) (by omega) hold
  rcases hk1' with rfl | rfl <;> rcases hk2' with rfl | rfl
  all_goals
    refine d_do (IClone O1 (nx + 22) [] a st.sizes) _ (by
      simp (maxDischargeDepth := 6) only [sy3.1, zY, qG, qP, qQ, qR, qS, qT, rowAt, ↓jg, ↓ji, Nat.reduceAdd, Nat.reduceEqDiff, ne_eq, jG, Nat.reduceLT, if_true, ite_true, Int.reduceLE, Int.reduceLT, Int.reduceEq, Int.reduceNeg, Int.reduceAdd, Nat.reduceSub, if_false, ite_false, fs_13.1]
      exact iclone_ok hO hS.sz (fun _ => rfl) (by omega)) (fun r hr => (iclone_kind hr).trans hk1.symm) (by decide +kernel) ?_
    rintro v1 o2 N2 l2 ⟨ca, cc, _, _, heq, p1, p2, p3, p4, p5, p6, p7, p8⟩ cl1
    cases heq
    have hr2 := (p5 i (by omega)).trans ((hold i hi).trans hr)
    have hi2 : i < N2 := by omega
    repeat (first | with_reducible (first | refine n_on ?_ | refine n_seq ?_ | refine s_else ?_ | refine n_t ?_ | refine n_gt ?_ | refine d_t ?_ | refine n_nil ?_ | refine d_nil ?_ | refine n_block ?_ | refine n_skip ?_ | refine n_bon ?_ | refine n_bback ?_ | refine n_back ?_ | refine n_out ?_ | refine n_bout rfl ?_ | refine n_bfar rfl ?_ | refine n_ret ?_ | refine n_exit ?_ | refine n_label ?_ | refine n_scope ?_ | refine n_son ?_ | refine n_sback ?_) | (with_reducible (first | apply n_region | apply d_region); (simp only [JV, JU, JW, Nat.reduceAdd, Nat.zero_add]; exact rfl)) | (with_reducible (first | apply s_op | apply n_guard | apply n_cond | apply d_guard | apply d_op | apply n_fin | apply n_finb); (simp (maxDischargeDepth := 6) only [sy3.1, zY, qG, qP, qQ, qR, qS, qT, rowAt, ↓jg, ↓ji, Nat.reduceAdd, Nat.reduceEqDiff, ne_eq, jG, Nat.reduceLT, if_true, ite_true, Int.reduceLE, Int.reduceLT, Int.reduceEq, Int.reduceNeg, Int.reduceAdd, Nat.reduceSub, if_false, ite_false, fs_13.1, hr2, hi2, kind_pure, kind_load, kind_fresh, kind_other, jg, ji, undef]; first | exact rfl | exact ⟨rfl, rfl, rfl, rfl⟩); try (with_reducible refine calmK_in ?_; decide +kernel)))
    have hF := (h.more (o' := o2) (nx' := N2) (by omega) fun x hx => (p5 x (by omega)).trans (hold x hx)).fr
    refine d_do (IClone o2 N2 [] b st.free) _ (by
      simp (maxDischargeDepth := 6) only [sy3.1, zY, qG, qP, qQ, qR, qS, qT, rowAt, ↓jg, ↓ji, Nat.reduceAdd, Nat.reduceEqDiff, ne_eq, jG, Nat.reduceLT, if_true, ite_true, Int.reduceLE, Int.reduceLT, Int.reduceEq, Int.reduceNeg, Int.reduceAdd, Nat.reduceSub, if_false, ite_false, fs_13.1]
      exact iclone_ok hO hF (fun e => by subst e; exact hcf.nil) (by omega)) (fun r hr => (iclone_kind hr).trans hk2.symm) (by decide +kernel) ?_
    rintro v2 o3 N3 l3 ⟨cb, cc2, _, _, heq, s1, s2, s3, s4, s5, s6, s7, s8⟩ cl2
    cases heq
    have hnew3 := (s5 (nx + 6) (by omega)).trans ((p5 (nx + 6) (by omega)).trans hnew)
    have hn3 : nx + 6 < N3 := by omega
    repeat (first | with_reducible (first | refine n_on ?_ | refine n_seq ?_ | refine s_else ?_ | refine n_t ?_ | refine n_gt ?_ | refine d_t ?_ | refine n_nil ?_ | refine d_nil ?_ | refine n_block ?_ | refine n_skip ?_ | refine n_bon ?_ | refine n_bback ?_ | refine n_back ?_ | refine n_out ?_ | refine n_bout rfl ?_ | refine n_bfar rfl ?_ | refine n_ret ?_ | refine n_exit ?_ | refine n_label ?_ | refine n_scope ?_ | refine n_son ?_ | refine n_sback ?_) | (with_reducible (first | apply n_region | apply d_region); (simp only [JV, JU, JW, Nat.reduceAdd, Nat.zero_add]; exact rfl)) | (with_reducible (first | apply s_op | apply n_guard | apply n_cond | apply d_guard | apply d_op | apply n_fin | apply n_finb); (simp (maxDischargeDepth := 6) only [sy3.1, zY, qG, qP, qQ, qR, qS, qT, rowAt, ↓jg, ↓ji, Nat.reduceAdd, Nat.reduceEqDiff, ne_eq, jG, Nat.reduceLT, if_true, ite_true, Int.reduceLE, Int.reduceLT, Int.reduceEq, Int.reduceNeg, Int.reduceAdd, Nat.reduceSub, if_false, ite_false, fs_13.1, hnew3, hn3, kind_pure, kind_load, kind_fresh, kind_other, jg, ji, undef]; first | exact rfl | exact ⟨rfl, rfl, rfl, rfl⟩); try (with_reducible refine calmK_in ?_; decide +kernel)))
    have hbn : Nat.ble nx (nx + 6) = true := by rw [Nat.ble_eq]; omega
    have hcc : cc = 0 := p3.resolve_right fun e => (hcf.2.elim (fun e2 => e.2.2 (p8.1 e2)) fun e2 => e2 e.2.1)
    subst hcc
    have hca : ∀ q, ca = some q → nx + 22 ≤ q ∧ q < N2 := fun q e => ⟨p4 q e, p2.lt e⟩
    have hcb : ∀ q, cb = some q → N2 ≤ q ∧ q < N3 := fun q e => ⟨s4 q e, s2.lt e⟩
    refine ⟨_, _, nx + 6, ca, cb, leave_out (by simp only [all_relogL, js, ju, hbn, List.all_nil, Bool.and_self]) (show Nat.blt (nx + 6) nx = false from blt_big (by omega)), by omega, ?_, ⟨by omega, ⟨0, cc2, by (repeat (first | rw [qE] | rw [qF _ _ _ _ (by omega)])), s3, hcf.2.imp p8.1 id⟩, ?_, ?_, ?_, ?_, ?_⟩, fun x hx => ?_⟩
    · rintro q (rfl | e | e)
      · omega
      · have := hca q e; omega
      · have := hcb q e; omega
    · exact p2.keep (by omega) fun q e => by
        have := hca q e
        (repeat (first | rw [qE] | rw [qF _ _ _ _ (by omega)]))
        exact s5 q this.2
    · exact s2.keep (by omega) fun q e => by
        have := hcb q e
        (repeat (first | rw [qE] | rw [qF _ _ _ _ (by omega)]))
    · intro e; have := hca _ e; omega
    · intro e; have := hcb _ e; omega
    · intro q e e2
      have := hca q e
      have := hcb q e2
      omega
    · (repeat (first | rw [qE] | rw [qF _ _ _ _ (by omega)]))
      rw [s5 x (by omega), p5 x (by omega)]
      exact hold x hx
end
end Go.Proofs.Yticeabhilkceiaa
