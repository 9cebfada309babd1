/- Heap: Table, Get, on the abstract machine. -/
import Derived.Test.YtdfadipfhcikdaaGreatDoorHmCel0
import Derived.Test.YtdfadipfhcikdaaGreatDoorTabIn
namespace Go.Proofs.YtdfadipfhcikdaaGreatDoor
open Go.RowKit
set_option linter.unusedSimpArgs false
set_option linter.unusedVariables false
set_option maxRecDepth 100000

def tabOb : Ob := ⟨5, 0, ⟨#[]⟩, [], (0, 0), 0, [], (0, 0)⟩
def tableO (hs : HS) : HS × VV × Int := addO hs tabOb 2
def getO (hs : HS) (t k : VV) : VV := match ofO hs t 5 with
  | some ob => getL ob.tab k
  | none => (0, 0)
section
variable {O : Helps} {n : Nat} {o : Tr AObj} {nx : Nat} {lg : List Nat} {w : Nat → Nat} {B : HB} {hs : HS}
set_option maxHeartbeats 16000000 in
theorem table_ok (hO : Clear O) (h : HeapIn o nx w B hs) (hG : HGood hs) (hc : hs.pool.count < 65536) (hmade : hs.made < 4611686018427387904) (hn : hs.pool.sizes.length < n) :
    Got (oCall Tryz.prog [] O (n + 5) 5 [.pointer (some ⟨B.i, 0, none⟩)] ⟨o, nx, lg⟩) (HTo o nx lg w B hs (tableO hs).1 (.tuple #[vv (tableO hs).2.1, .int .i64 (tableO hs).2.2])) := by
  obtain ⟨z, hr⟩ := h.row
  have hi := h.lt
  have hright := hright_ok (n := n + 3) (i := B.i) (m := B.ma) (p := B.p) (c0 := .int .i64 hs.max) (c3 := .map (some B.mt)) (c4 := .int .i64 hs.made) (c5 := .bool hs.watch) (c6 := .map (some B.mn)) (e := 50) (z := z) (own := true) hO
  have hnew := fun (o : Tr AObj) nx lg => new_tab2 (n := n + 3) (o := o) (nx := nx) (lg := lg) hO
  unfold tableO
  rw [y_fn (rs := [.cell 2 29, .tmp 3]) (hO _ (by decide)) Tryz.func5 rfl (by kernel_rfl) rfl rfl]
  repeat (first | with_reducible (first | refine n_on ?_ | refine n_seq ?_ | refine s_else ?_ | refine n_t ?_ | refine n_gt ?_ | refine d_t ?_ | refine n_nil ?_ | refine d_nil ?_ | refine n_block ?_ | refine n_skip ?_ | refine n_bon ?_ | refine n_bback ?_ | refine n_back ?_ | refine n_out ?_ | refine n_bout rfl ?_ | refine n_bfar rfl ?_ | refine n_ret ?_ | refine n_exit ?_ | refine n_label ?_ | refine n_scope ?_ | refine n_son ?_ | refine n_sback ?_) | (with_reducible (first | apply n_region | apply d_region); (simp only [JV, JU, JW, Nat.reduceAdd, Nat.zero_add]; exact rfl)) | (with_reducible (first | apply s_op | apply n_guard | apply n_cond | apply d_guard | apply d_op | apply n_fin | apply n_finb); (simp (maxDischargeDepth := 6) only [sy3.1, zY, qG, qP, qQ, qR, qS, qT, rowAt, ↓jg, ↓ji, Nat.reduceAdd, Nat.reduceEqDiff, ne_eq, jG, Nat.reduceLT, if_true, ite_true, Int.reduceLE, Int.reduceLT, Int.reduceEq, Int.reduceNeg, Int.reduceAdd, Nat.reduceSub, if_false, ite_false, fs_5.1, heapRow, hr, hi, hright, hnew, vv, kind_pure, kind_load, kind_fresh, kind_other, jg, ji, undef]; first | exact rfl | exact ⟨rfl, rfl, rfl, rfl⟩); try (with_reducible refine calmK_in ?_; decide +kernel)))
  have h15 : HeapIn ((((o.put nx (some (.row [.int .u8 0, .int .i64 0] 29 0 true))).put (nx + 15) (some (.map [] 0))).put (nx + 17) (some (.row [.slice none 0 0, .map (some (nx + 15))] 98 0 true))).put (nx + 8) (some (.row (obRow tabOb (some ⟨nx + 17, 0, none⟩) none none 0) 57 0 true))) (nx + 19) w B hs := h.more (by omega) fun x hx => by (repeat (first | rw [qE] | rw [qF _ _ _ _ (by omega)]))
  have hT : TabIn ((((o.put nx (some (.row [.int .u8 0, .int .i64 0] 29 0 true))).put (nx + 15) (some (.map [] 0))).put (nx + 17) (some (.row [.slice none 0 0, .map (some (nx + 15))] 98 0 true))).put (nx + 8) (some (.row (obRow tabOb (some ⟨nx + 17, 0, none⟩) none none 0) 57 0 true))) (nx + 19) (nx + 17) (nx + 15) none [] := (new_tabIn (o := o.put nx (some (.row [.int .u8 0, .int .i64 0] 29 0 true))) (nx := nx + 14)).keep (by omega) fun b hb => by
    rcases hb with rfl | rfl | hb
    · (repeat (first | rw [qE] | rw [qF _ _ _ _ (by omega)]))
    · (repeat (first | rw [qE] | rw [qF _ _ _ _ (by omega)]))
    · cases hb
  obtain ⟨dd, hdd⟩ : ∃ dd, (takeP hs.pool 2).2.1.toNat = dd := ⟨_, rfl⟩
  obtain ⟨w1, hw1e⟩ : ∃ w1 : Nat → Nat, w1 = fun x => if x = nx + 8 then 8 + 5 * dd else if x = nx + 17 then 10 + 5 * dd else if x = nx + 15 then 11 + 5 * dd else w x := ⟨_, rfl⟩
  have hwnx : ∀ x, nx ≤ x → w x = 0 := fun x hx => by
    by_cases e : w x = 0
    · exact e
    · have := h.wlt x e; omega
  have hw1o : ∀ x, x ≠ nx + 8 → x ≠ nx + 17 → x ≠ nx + 15 → w1 x = w x := fun x hx hy hz => by rw [hw1e]; simp only [hx, hy, hz, if_false]
  have hw1a : w1 (nx + 8) = 8 + 5 * dd := by rw [hw1e]; simp only [if_true]
  have hw1b : w1 (nx + 17) = 10 + 5 * dd := by rw [hw1e]; simp only [show nx + 17 ≠ nx + 8 from by omega, if_true, if_false]
  have hw1c : w1 (nx + 15) = 11 + 5 * dd := by rw [hw1e]; simp only [show nx + 15 ≠ nx + 8 from by omega, show nx + 15 ≠ nx + 17 from by omega, if_true, if_false]
  refine s_do _ (by
    simp (maxDischargeDepth := 6) only [sy3.1, zY, qG, qP, qQ, qR, qS, qT, rowAt, ↓jg, ↓ji, Nat.reduceAdd, Nat.reduceEqDiff, ne_eq, jG, Nat.reduceLT, if_true, ite_true, Int.reduceLE, Int.reduceLT, Int.reduceEq, Int.reduceNeg, Int.reduceAdd, Nat.reduceSub, if_false, ite_false, fs_5.1]
    refine add_ok (w1 := w1) (ob := tabOb) hO h15 hG (fun x hx => ?_) (fun x hx => ?_) (by decide) (by decide) hc hmade (hwnx _ (by omega)) (fun _ => ⟨by omega, by rw [hw1a, hdd], some ⟨nx + 17, 0, none⟩, none, none, 0, 0, qE _ _ _, .inl ⟨rfl, rfl⟩, .inl rfl, fun q e => (by cases e), fun _ => ⟨_, _, _, rfl, hT, by rw [hw1b, hdd], by rw [hw1c, hdd], fun q e => by cases e⟩⟩) hn
    · have := h.wlt x hx; exact hw1o x (by omega) (by omega) (by omega)
    · by_cases e : x < nx + 19
      · exact e
      · exfalso
        rw [hw1o x (by omega) (by omega) (by omega)] at hx; have := h.wlt x hx; omega) ?_
  rintro v1 H1 ⟨o1, nx1, lg1, w', B', heq, hn1, hH1, hB, hfr, hmo, hl⟩
  cases heq
  have hr4 : o1.get nx = some (.row [.int .u8 0, .int .i64 0] 29 0 true) := by
    rw [(hfr nx (by omega) (by rw [hw1o _ (by omega) (by omega) (by omega)]; exact hwnx _ (by omega))).1]; (repeat (first | rw [qE] | rw [qF _ _ _ _ (by omega)]))
  have hwf : w' nx = 0 := (hfr nx (by omega) (by rw [hw1o _ (by omega) (by omega) (by omega)]; exact hwnx _ (by omega))).2
  repeat (first | with_reducible (first | refine n_on ?_ | refine n_seq ?_ | refine s_else ?_ | refine n_t ?_ | refine n_gt ?_ | refine d_t ?_ | refine n_nil ?_ | refine d_nil ?_ | refine n_block ?_ | refine n_skip ?_ | refine n_bon ?_ | refine n_bback ?_ | refine n_back ?_ | refine n_out ?_ | refine n_bout rfl ?_ | refine n_bfar rfl ?_ | refine n_ret ?_ | refine n_exit ?_ | refine n_label ?_ | refine n_scope ?_ | refine n_son ?_ | refine n_sback ?_) | (with_reducible (first | apply n_region | apply d_region); (simp only [JV, JU, JW, Nat.reduceAdd, Nat.zero_add]; exact rfl)) | (with_reducible (first | apply s_op | apply n_guard | apply n_cond | apply d_guard | apply d_op | apply n_fin | apply n_finb); (simp (maxDischargeDepth := 6) only [sy3.1, zY, qG, qP, qQ, qR, qS, qT, rowAt, ↓jg, ↓ji, Nat.reduceAdd, Nat.reduceEqDiff, ne_eq, jG, Nat.reduceLT, if_true, ite_true, Int.reduceLE, Int.reduceLT, Int.reduceEq, Int.reduceNeg, Int.reduceAdd, Nat.reduceSub, if_false, ite_false, fs_5.1, hr4, vv, kind_pure, kind_load, kind_fresh, kind_other, jg, ji, undef]; first | exact rfl | exact ⟨rfl, rfl, rfl, rfl⟩); try (with_reducible refine calmK_in ?_; decide +kernel)))
  refine hto_end h (w' := w') (B' := B') (by rfl) (hH1.keep (by omega) (fun x hx => by have := hH1.wlt x hx; omega) fun x hx => ⟨?_, rfl⟩) (by omega) hB (fun x hx hw0 => ?_) ?_
  · have e1 : x ≠ nx := fun e => hx (by rw [e]; exact hwf)
    (repeat (first | rw [qE] | rw [qF _ _ _ _ (by omega)]))
  · have := hfr x (by omega) (by rw [hw1o x (by omega) (by omega) (by omega)]; exact hw0)
    refine ⟨?_, this.2⟩
    (repeat (first | rw [qE] | rw [qF _ _ _ _ (by omega)]))
    rw [this.1]
    (repeat (first | rw [qE] | rw [qF _ _ _ _ (by omega)]))
  · rcases hl with ⟨x, hx, hw⟩ | ⟨_, _, rfl, _, _, e⟩
    · exact .inl ⟨x, by simp only [in_note, hx, or_true], hw⟩
    · exact .inr ⟨e, by simp only [all_relogL, js, ju, List.all_nil, jt, Bool.and_self]⟩
set_option maxHeartbeats 16000000 in
theorem hget_ok (hO : Clear O) (h : HeapIn o nx w B hs) (t k : VV) : oCall Tryz.prog [] O (n + 4) 80 [.pointer (some ⟨B.i, 0, none⟩), .agg #[.int .u8 t.1, .int .i64 t.2], .agg #[.int .u8 k.1, .int .i64 k.2]] ⟨o, nx, lg⟩ = some (vv (getO hs t k), ⟨o, nx, lg⟩) := by
  refine of_got ?_
  have hof := fun (X Y Z : AObj) (q : Nat) (lg : List Nat) => of_ok (n := n) (lg := lg) (o := ((o.put nx (some X)).put (nx + 1) (some Y)).put (nx + 2) (some Z)) (nx := nx + q + 3) hO (h.more (by omega) fun x hx => by (repeat (first | rw [qE] | rw [qF _ _ _ _ (by omega)]))) t 5
  unfold getO ofO
  rw [y_fn (rs := [.cell 6 29]) (hO _ (by decide)) Tryz.func80 rfl (by kernel_rfl) rfl rfl]
  by_cases h9 : t.1 = 5
  · rw [if_pos h9] at hof ⊢
    unfold foundV at hof
    cases hf : findO hs t with
    | none =>
      rw [hf] at hof
      repeat (first | with_reducible (first | refine n_on ?_ | refine n_seq ?_ | refine s_else ?_ | refine n_t ?_ | refine n_gt ?_ | refine d_t ?_ | refine n_nil ?_ | refine d_nil ?_ | refine n_block ?_ | refine n_skip ?_ | refine n_bon ?_ | refine n_bback ?_ | refine n_back ?_ | refine n_out ?_ | refine n_bout rfl ?_ | refine n_bfar rfl ?_ | refine n_ret ?_ | refine n_exit ?_ | refine n_label ?_ | refine n_scope ?_ | refine n_son ?_ | refine n_sback ?_) | (with_reducible (first | apply n_region | apply d_region); (simp only [JV, JU, JW, Nat.reduceAdd, Nat.zero_add]; exact rfl)) | (with_reducible (first | apply s_op | apply n_guard | apply n_cond | apply d_guard | apply d_op | apply n_fin | apply n_finb); (simp (maxDischargeDepth := 6) only [sy3.1, zY, qG, qP, qQ, qR, qS, qT, rowAt, ↓jg, ↓ji, Nat.reduceAdd, Nat.reduceEqDiff, ne_eq, jG, Nat.reduceLT, if_true, ite_true, Int.reduceLE, Int.reduceLT, Int.reduceEq, Int.reduceNeg, Int.reduceAdd, Nat.reduceSub, if_false, ite_false, fs_80.1, hof, ptr0_neq, kind_pure, kind_load, kind_fresh, kind_other, jg, ji, undef]; first | exact rfl | exact ⟨rfl, rfl, rfl, rfl⟩); try (with_reducible refine calmK_in ?_; decide +kernel)))
      try exact Ja (by simp only [all_relogL, js, ju, List.all_nil, jt, Bool.and_self]) (by rfl)
    | some ob =>
      rw [hf] at hof
      obtain ⟨hm, hkd⟩ := found_in hf
      have hob := h.obs _ hm
      obtain ⟨tp, sp, ca, cc, zz, hro, _, _, _, htab⟩ := hob.ex
      obtain ⟨ti, tm, ta, rfl, hT, _⟩ := htab (hkd.trans h9)
      have hbl := hob.lt
      simp only at hro hbl
      have hg := fun (X Y Z : AObj) (q : Nat) (lg : List Nat) => get_ok (n := n + 1) (lg := lg) (o := ((o.put nx (some X)).put (nx + 1) (some Y)).put (nx + 2) (some Z)) (nx := nx + q + 3) hO (hT.more (nx' := nx + q + 3) (by omega) fun x hx => by (repeat (first | rw [qE] | rw [qF _ _ _ _ (by omega)]))).at k
      simp only [vv] at hg
      repeat (first | with_reducible (first | refine n_on ?_ | refine n_seq ?_ | refine s_else ?_ | refine n_t ?_ | refine n_gt ?_ | refine d_t ?_ | refine n_nil ?_ | refine d_nil ?_ | refine n_block ?_ | refine n_skip ?_ | refine n_bon ?_ | refine n_bback ?_ | refine n_back ?_ | refine n_out ?_ | refine n_bout rfl ?_ | refine n_bfar rfl ?_ | refine n_ret ?_ | refine n_exit ?_ | refine n_label ?_ | refine n_scope ?_ | refine n_son ?_ | refine n_sback ?_) | (with_reducible (first | apply n_region | apply d_region); (simp only [JV, JU, JW, Nat.reduceAdd, Nat.zero_add]; exact rfl)) | (with_reducible (first | apply s_op | apply n_guard | apply n_cond | apply d_guard | apply d_op | apply n_fin | apply n_finb); (simp (maxDischargeDepth := 6) only [sy3.1, zY, qG, qP, qQ, qR, qS, qT, rowAt, ↓jg, ↓ji, Nat.reduceAdd, Nat.reduceEqDiff, ne_eq, jG, Nat.reduceLT, if_true, ite_true, Int.reduceLE, Int.reduceLT, Int.reduceEq, Int.reduceNeg, Int.reduceAdd, Nat.reduceSub, if_false, ite_false, fs_80.1, obRow, hof, hro, hbl, hg, kind_pure, kind_load, kind_fresh, kind_other, jg, ji, undef]; first | exact rfl | exact ⟨rfl, rfl, rfl, rfl⟩); try (with_reducible refine calmK_in ?_; decide +kernel)))
      exact Ja (by simp only [all_relogL, js, ju, List.all_nil, jt, Bool.and_self]) (by rfl)
  · rw [if_neg h9] at hof ⊢
    repeat (first | with_reducible (first | refine n_on ?_ | refine n_seq ?_ | refine s_else ?_ | refine n_t ?_ | refine n_gt ?_ | refine d_t ?_ | refine n_nil ?_ | refine d_nil ?_ | refine n_block ?_ | refine n_skip ?_ | refine n_bon ?_ | refine n_bback ?_ | refine n_back ?_ | refine n_out ?_ | refine n_bout rfl ?_ | refine n_bfar rfl ?_ | refine n_ret ?_ | refine n_exit ?_ | refine n_label ?_ | refine n_scope ?_ | refine n_son ?_ | refine n_sback ?_) | (with_reducible (first | apply n_region | apply d_region); (simp only [JV, JU, JW, Nat.reduceAdd, Nat.zero_add]; exact rfl)) | (with_reducible (first | apply s_op | apply n_guard | apply n_cond | apply d_guard | apply d_op | apply n_fin | apply n_finb); (simp (maxDischargeDepth := 6) only [sy3.1, zY, qG, qP, qQ, qR, qS, qT, rowAt, ↓jg, ↓ji, Nat.reduceAdd, Nat.reduceEqDiff, ne_eq, jG, Nat.reduceLT, if_true, ite_true, Int.reduceLE, Int.reduceLT, Int.reduceEq, Int.reduceNeg, Int.reduceAdd, Nat.reduceSub, if_false, ite_false, fs_80.1, hof, ptr0_neq, kind_pure, kind_load, kind_fresh, kind_other, jg, ji, undef]; first | exact rfl | exact ⟨rfl, rfl, rfl, rfl⟩); try (with_reducible refine calmK_in ?_; decide +kernel)))
    exact Ja (by simp only [all_relogL, js, ju, List.all_nil, jt, Bool.and_self]) (by rfl)
end
end Go.Proofs.YtdfadipfhcikdaaGreatDoor
