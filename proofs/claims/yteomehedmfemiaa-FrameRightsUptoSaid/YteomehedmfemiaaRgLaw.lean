/- Frame: the law of frames that are right or not, its walk. -/
import Derived.Test.YteomehedmfemiaaRgBoth
import Derived.Test.YteomehedmfemiaaRgMin
import Derived.Test.YteomehedmfemiaaRgOps
import Derived.Test.YteomehedmfemiaaRgRefRight
import Derived.Test.YteomehedmfemiaaRgProg
import Derived.Test.YteomehedmfemiaaRgAdj3
import Derived.Test.YteomehedmfemiaaRgCopyF
set_option linter.unusedSimpArgs false
set_option linter.unusedVariables false
set_option maxRecDepth 100000
namespace Go.Proofs.Yteomehedmfemiaa
open Go.RowKit
theorem both_help (n : Nat) (o : Tr AObj) (nx : Nat) (lg : List Nat) : oCall Try.prog [] OF (n + 1) 7 [.int .i64 100] ⟨o, nx, lg⟩ = some (.tuple #[.pointer (some ⟨nx, 0, none⟩), .pointer (some ⟨nx + 1, 0, none⟩), .agg #[.int .u8 6, .int .i64 2], .bool true], ⟨o, nx + 2, lg⟩) := rfl
theorem awake_help (n : Nat) (o : Tr AObj) (nx : Nat) (lg : List Nat) : oCall Try.prog [] OF (n + 1) 18 [] ⟨o, nx, lg⟩ = some (.bool true, ⟨o, nx, lg⟩) := rfl
theorem SlI.keep {o o' : Tr AObj} {nx nx' : Nat} {v : Value} {l : List Int} (h : SlI o nx v l) (hn : nx ≤ nx') (hk : ∀ x, x < nx → o'.get x = o.get x) : SlI o' nx' v l := by
  rcases h with h | ⟨j, off, c, et, es, w, cells, rfl, h2, h3, h4⟩
  · exact .inl h
  · exact .inr ⟨j, off, c, et, es, w, cells, rfl, by omega, (hk j h2).trans h3, h4⟩
theorem vv00_neq : binV Try.prog .neq 41 false false (.agg #[.int .u8 0, .int .i64 0]) (.agg #[.int .u8 0, .int .i64 0]) = some (.bool false) := by kernel_rfl
theorem adjL_len {l : List VV} (h : l.length ≤ 1048576) {want : Int} (hw : want ≤ 500) : (adjL l want).length ≤ 1048576 := by
  unfold adjL
  split
  · exact h
  · rw [List.length_append, List.length_take, List.length_replicate]; omega
theorem resV_class {P : Program} {ρ : Operand → Value} {fid nx nx' : Nat} {ob o : Tr AObj} {lg : List Nat} {c : Call} {l : List VV} {f : Operand} (hc : c.callee = .value f) : ∀ r, ResV o nx' [] l r → ∃ q, zY ρ fid ⟨ob, nx, lg⟩ r.2 (.call c) = .other q [] := by
  rintro r ⟨v, o', n', rfl, _⟩
  obtain ⟨ca, xs, ts⟩ := c
  cases hc
  exact ⟨_, rfl⟩
theorem PIn.keep {o o' : Tr AObj} {nx nx' kp S : Nat} (h : PIn o nx kp S) (hn : nx ≤ nx') (hk : o'.get kp = o.get kp) : PIn o' nx' kp S := by
  obtain ⟨hlt, pr, mo, ab, cb, ks, ua, un, uc, hrow⟩ := h
  exact ⟨by omega, pr, mo, ab, cb, ks, ua, un, uc, hk.trans hrow⟩
theorem fuelAt {O : Helps} {M k f : Nat} {args : List Value} {H : AHeap} {Q : Value × AHeap → Prop} (h : k ≤ M) (g : Got (oCall Try.prog [] O (M + 9 - k + k) f args H) Q) : Got (oCall Try.prog [] O (M + 9) f args H) Q := by
  rw [Nat.sub_add_cancel (by omega)] at g; exact g
theorem fuelEq {O : Helps} {M k f : Nat} {args : List Value} {H : AHeap} {r : Option (Value × AHeap)} (h : k ≤ M) (g : oCall Try.prog [] O (M + 9 - k + k) f args H = r) : oCall Try.prog [] O (M + 9) f args H = r := by
  rw [Nat.sub_add_cancel (by omega)] at g; exact g
section
variable {o : Tr AObj} {nx : Nat} {lg : List Nat}
set_option maxHeartbeats 32000000 in
theorem frights_run {M : Nat} (hM : 2000010 ≤ M) (pa sl b : Int) (mo : Bool) {uv : Value} {ul : List Int} (hu : SlI o nx uv ul) (hub : ul.length ≤ 1048576)
    {en pr cl st pc wa : Int} {wt : Bool} {s d w v r : Value} {ls ld lv lr : List VV} {lw : List TT} (hs : SlV o nx s ls) (hd : SlV o nx d ld) (hw : SlT o nx w lw) (hv : SlV o nx v lv) (hr : SlV o nx r lr)
    (bs : ls.length ≤ 1048576) (bd : ld.length ≤ 1048576) (bw : lw.length ≤ 1048576) (bv : lv.length ≤ 1048576) (br : lr.length ≤ 1048576) (want : Int) :
    Got (oCall Try.prog [] OF (M + 10) 3 [.agg #[.int .i64 pa, .int .i64 sl, .int .i64 b, .bool mo, uv], fV en pr cl st s d w v pc r wt wa, .int .i64 want] ⟨o, nx, lg⟩) fun q => q.1 = .bool true := by
  have hO := clearF
  obtain ⟨sa, sc, rfl⟩ := hs.slice
  rw [y_fn (rs := [.tmp 6]) (hO _ (by decide)) Try.func3 rfl (by kernel_rfl) rfl rfl]
  repeat (first | with_reducible (first | refine n_on ?_ | refine n_seq ?_ | refine s_else ?_ | refine n_t ?_ | refine n_gt ?_ | refine d_t ?_ | refine n_nil ?_ | refine d_nil ?_ | refine n_block ?_ | refine n_skip ?_ | refine n_bon ?_ | refine n_bback ?_ | refine n_back ?_ | refine n_out ?_ | refine n_bout rfl ?_ | refine n_bfar rfl ?_ | refine n_ret ?_ | refine n_exit ?_ | refine n_label ?_ | refine n_scope ?_ | refine n_son ?_ | refine n_sback ?_) | (with_reducible (first | apply n_region | apply d_region); (simp only [JV, JU, JW, Nat.reduceAdd, Nat.zero_add]; exact rfl)) | (with_reducible (first | apply s_op | apply n_guard | apply n_cond | apply d_guard | apply d_op | apply n_fin | apply n_finb); (simp (maxDischargeDepth := 6) only [sy3.1, zY, qG, qP, qQ, qR, qS, qT, rowAt, ↓jg, ↓ji, Nat.reduceAdd, Nat.reduceEqDiff, ne_eq, jG, Nat.reduceLT, if_true, ite_true, Int.reduceLE, Int.reduceLT, Int.reduceEq, Int.reduceNeg, Int.reduceAdd, Nat.reduceSub, if_false, ite_false, fs_3.1, fV, fC, Ji, cut_twelve, kind_pure, kind_load, kind_fresh, kind_other, jg, ji, undef]; first | exact rfl | exact ⟨rfl, rfl, rfl, rfl⟩); try (with_reducible refine calmK_in ?_; decide +kernel)))
  refine s_do _ (by
    simp (maxDischargeDepth := 6) only [sy3.1, zY, qG, qP, qQ, qR, qS, qT, rowAt, ↓jg, ↓ji, Nat.reduceAdd, Nat.reduceEqDiff, ne_eq, jG, Nat.reduceLT, if_true, ite_true, Int.reduceLE, Int.reduceLT, Int.reduceEq, Int.reduceNeg, Int.reduceAdd, Nat.reduceSub, if_false, ite_false, fs_3.1]
    exact fuelAt (k := 1000) (by omega) (rprog_ok (n := M + 9 - 1000) hO pa sl b mo (hu.keep (by omega) fun x hx => by (repeat (first | rw [qE] | rw [qF _ _ _ _ (by omega)]))) hub)) ?_
  rintro c1 H1 ⟨kp, S, o1, nx1, heq, hn1, hk1, hP⟩
  cases heq
  have hold1 : ∀ x, x < nx → o1.get x = o.get x := fun x hx => by rw [hk1 x (by omega)]; (repeat (first | rw [qE] | rw [qF _ _ _ _ (by omega)]))
  have hf1 : o1.get (nx + 1) = some (.row (fC en pr cl st (.slice sa ls.length sc) d w v pc r wt wa) 29 0 true) := by rw [hk1 _ (by omega)]; (repeat (first | rw [qE] | rw [qF _ _ _ _ (by omega)]))
  have m1 : nx + 1 < nx1 := by omega
  repeat (first | with_reducible (first | refine n_on ?_ | refine n_seq ?_ | refine s_else ?_ | refine n_t ?_ | refine n_gt ?_ | refine d_t ?_ | refine n_nil ?_ | refine d_nil ?_ | refine n_block ?_ | refine n_skip ?_ | refine n_bon ?_ | refine n_bback ?_ | refine n_back ?_ | refine n_out ?_ | refine n_bout rfl ?_ | refine n_bfar rfl ?_ | refine n_ret ?_ | refine n_exit ?_ | refine n_label ?_ | refine n_scope ?_ | refine n_son ?_ | refine n_sback ?_) | (with_reducible (first | apply n_region | apply d_region); (simp only [JV, JU, JW, Nat.reduceAdd, Nat.zero_add]; exact rfl)) | (with_reducible (first | apply s_op | apply n_guard | apply n_cond | apply d_guard | apply d_op | apply n_fin | apply n_finb); (simp (maxDischargeDepth := 6) only [sy3.1, zY, qG, qP, qQ, qR, qS, qT, rowAt, ↓jg, ↓ji, Nat.reduceAdd, Nat.reduceEqDiff, ne_eq, jG, Nat.reduceLT, if_true, ite_true, Int.reduceLE, Int.reduceLT, Int.reduceEq, Int.reduceNeg, Int.reduceAdd, Nat.reduceSub, if_false, ite_false, fs_3.1, hf1, m1, fC, fV, cut_twelve, kind_pure, kind_load, kind_fresh, kind_other, jg, ji, undef]; first | exact rfl | exact ⟨rfl, rfl, rfl, rfl⟩); try (with_reducible refine calmK_in ?_; decide +kernel)))
  refine s_do _ (by
    simp (maxDischargeDepth := 6) only [sy3.1, zY, qG, qP, qQ, qR, qS, qT, rowAt, ↓jg, ↓ji, Nat.reduceAdd, Nat.reduceEqDiff, ne_eq, jG, Nat.reduceLT, if_true, ite_true, Int.reduceLE, Int.reduceLT, Int.reduceEq, Int.reduceNeg, Int.reduceAdd, Nat.reduceSub, if_false, ite_false, fs_3.1]
    exact fuelAt (k := 2000001) (by omega) (copyf_ok (n := M + 9 - 2000001) hO (hs.keep (by omega) fun x hx => by (repeat (first | rw [qE] | rw [qF _ _ _ _ (by omega)])); exact hold1 x hx) (hd.keep (by omega) fun x hx => by (repeat (first | rw [qE] | rw [qF _ _ _ _ (by omega)])); exact hold1 x hx) (hw.keep (by omega) fun x hx => by (repeat (first | rw [qE] | rw [qF _ _ _ _ (by omega)])); exact hold1 x hx) (hv.keep (by omega) fun x hx => by (repeat (first | rw [qE] | rw [qF _ _ _ _ (by omega)])); exact hold1 x hx) (hr.keep (by omega) fun x hx => by (repeat (first | rw [qE] | rw [qF _ _ _ _ (by omega)])); exact hold1 x hx) bs bd bw bv br)) ?_
  rintro c2 H2 ⟨s2, d2, w2, v2, r2, o2, nx2, heq, hn2, hk2, as2, ad2, aw2, av2, ar2⟩
  cases heq
  obtain ⟨sa2, sc2, rfl⟩ := as2.sl.slice
  obtain ⟨da2, dc2, rfl⟩ := ad2.sl.slice
  obtain ⟨wa2, wc2, rfl⟩ := aw2.sl.slice
  obtain ⟨va2, vc2, rfl⟩ := av2.sl.slice
  obtain ⟨ra2, rc2, rfl⟩ := ar2.sl.slice
  have hold2 : ∀ x, x < nx1 → x ≠ nx + 5 → o2.get x = o1.get x := fun x hx h5 => by rw [hk2 x (by omega)]; (repeat (first | rw [qE] | rw [qF _ _ _ _ (by omega)]))
  obtain ⟨hkp, hP1⟩ := hP
  have hkn : kp < nx1 := hP1.1
  have hP2 : PIn o2 nx2 kp S := by
    obtain ⟨hlt, pr', mo', ab, cb, ks, ua, un, uc, hrow⟩ := hP1
    exact ⟨by omega, pr', mo', ab, cb, ks, ua, un, uc, (hold2 _ hlt (by omega)).trans hrow⟩
  have m2 : nx + 1 < nx2 := by omega
  have m5 : nx + 5 < nx2 := by omega
  have m8 : nx1 + 2 < nx2 := by omega
  have hf2 : o2.get (nx + 1) = some (.row (fC en pr cl st (.slice sa ls.length sc) d w v pc r wt wa) 29 0 true) := by rw [hold2 _ (by omega) (by omega)]; exact hf1
  have hg5 : o2.get (nx + 5) = some (.row [.slice none 0 0, .slice (some ⟨kp, 0, none⟩) 2 3] 33 0 true) := by rw [hk2 _ (by omega)]; (repeat (first | rw [qE] | rw [qF _ _ _ _ (by omega)]))
  have n5 : nx + 5 ≠ nx1 + 2 := by omega
  have n1 : nx + 1 ≠ nx1 + 2 := by omega
  have n5' := Ne.symm n5
  have n1' := Ne.symm n1
  repeat (first | with_reducible (first | refine n_on ?_ | refine n_seq ?_ | refine s_else ?_ | refine n_t ?_ | refine n_gt ?_ | refine d_t ?_ | refine n_nil ?_ | refine d_nil ?_ | refine n_block ?_ | refine n_skip ?_ | refine n_bon ?_ | refine n_bback ?_ | refine n_back ?_ | refine n_out ?_ | refine n_bout rfl ?_ | refine n_bfar rfl ?_ | refine n_ret ?_ | refine n_exit ?_ | refine n_label ?_ | refine n_scope ?_ | refine n_son ?_ | refine n_sback ?_) | (with_reducible (first | apply n_region | apply d_region); (simp only [JV, JU, JW, Nat.reduceAdd, Nat.zero_add]; exact rfl)) | (with_reducible (first | apply s_op | apply n_guard | apply n_cond | apply d_guard | apply d_op | apply n_fin | apply n_finb); (simp (maxDischargeDepth := 6) only [sy3.1, zY, qG, qP, qQ, qR, qS, qT, rowAt, ↓jg, ↓ji, Nat.reduceAdd, Nat.reduceEqDiff, ne_eq, jG, Nat.reduceLT, if_true, ite_true, Int.reduceLE, Int.reduceLT, Int.reduceEq, Int.reduceNeg, Int.reduceAdd, Nat.reduceSub, if_false, ite_false, fs_3.1, hf2, hg5, m2, m5, m8, n5, n1, n5', n1', fC, fV, cut_twelve, kind_pure, kind_load, kind_fresh, kind_other, jg, ji, undef]; first | exact rfl | exact ⟨rfl, rfl, rfl, rfl⟩); try (with_reducible refine calmK_in ?_; decide +kernel)))
  obtain ⟨R, hR⟩ : ∃ R, rightB S en pr cl st ls.length = R := ⟨_, rfl⟩
  refine s_do _ (by
    simp (maxDischargeDepth := 6) only [sy3.1, zY, qG, qP, qQ, qR, qS, qT, rowAt, ↓jg, ↓ji, Nat.reduceAdd, Nat.reduceEqDiff, ne_eq, jG, Nat.reduceLT, if_true, ite_true, Int.reduceLE, Int.reduceLT, Int.reduceEq, Int.reduceNeg, Int.reduceAdd, Nat.reduceSub, if_false, ite_false, fs_3.1]
    exact got_eq (rrefright_ok (n := M + 8) hO (hP2.keep (by omega) (by (repeat (first | rw [qE] | rw [qF _ _ _ _ (by omega)])))))) ?_
  rintro _ _ heq
  cases heq
  rw [hR]
  repeat (first | with_reducible (first | refine n_on ?_ | refine n_seq ?_ | refine s_else ?_ | refine n_t ?_ | refine n_gt ?_ | refine d_t ?_ | refine n_nil ?_ | refine d_nil ?_ | refine n_block ?_ | refine n_skip ?_ | refine n_bon ?_ | refine n_bback ?_ | refine n_back ?_ | refine n_out ?_ | refine n_bout rfl ?_ | refine n_bfar rfl ?_ | refine n_ret ?_ | refine n_exit ?_ | refine n_label ?_ | refine n_scope ?_ | refine n_son ?_ | refine n_sback ?_) | (with_reducible (first | apply n_region | apply d_region); (simp only [JV, JU, JW, Nat.reduceAdd, Nat.zero_add]; exact rfl)) | (with_reducible (first | apply s_op | apply n_guard | apply n_cond | apply d_guard | apply d_op | apply n_fin | apply n_finb); (simp (maxDischargeDepth := 6) only [sy3.1, zY, qG, qP, qQ, qR, qS, qT, rowAt, ↓jg, ↓ji, Nat.reduceAdd, Nat.reduceEqDiff, ne_eq, jG, Nat.reduceLT, if_true, ite_true, Int.reduceLE, Int.reduceLT, Int.reduceEq, Int.reduceNeg, Int.reduceAdd, Nat.reduceSub, if_false, ite_false, fs_3.1, hf2, hg5, m2, m5, m8, n5, n1, n5', n1', kind_pure, kind_load, kind_fresh, kind_other, jg, ji, undef]; first | exact rfl | exact ⟨rfl, rfl, rfl, rfl⟩); try (with_reducible refine calmK_in ?_; decide +kernel)))
  refine s_do (fun q => ∃ o3 nx3 hb l3, q = (.tuple #[.pointer (some ⟨hb, 0, none⟩), .pointer (some ⟨hb + 1, 0, none⟩), .agg #[.int .u8 6, .int .i64 2], .bool true], (⟨o3, nx3, l3⟩ : AHeap)) ∧ nx2 + 12 ≤ nx3 ∧ (∀ x, x < nx2 → x ≠ nx1 + 2 → o3.get x = o2.get x) ∧ o3.get (nx1 + 2) = some (.row (fC en pr cl st (.slice sa2 ls.length sc2) (.slice da2 ld.length dc2) (.slice wa2 lw.length wc2) (.slice va2 lv.length vc2) pc (.slice ra2 lr.length rc2) wt wa) 29 0 true)) (by
    simp (maxDischargeDepth := 6) only [sy3.1, zY, qG, qP, qQ, qR, qS, qT, rowAt, ↓jg, ↓ji, Nat.reduceAdd, Nat.reduceEqDiff, ne_eq, jG, Nat.reduceLT, if_true, ite_true, Int.reduceLE, Int.reduceLT, Int.reduceEq, Int.reduceNeg, Int.reduceAdd, Nat.reduceSub, if_false, ite_false, fs_3.1]
    refine ⟨_, both_help _ _ _ _, _, _, _, _, rfl, by omega, fun x hx h2 => by (repeat (first | rw [qE] | rw [qF _ _ _ _ (by omega)])), by (repeat (first | rw [qE] | rw [qF _ _ _ _ (by omega)]))⟩) ?_
  rintro _ _ ⟨o3, nx3, hb, l3, heq, hn3, hk3, g8⟩
  cases heq
  have hP3 : PIn o3 nx3 kp S := hP2.keep (by omega) (hk3 _ (by omega) (by omega))
  have g1 : o3.get (nx + 1) = _ := (hk3 _ (by omega) (by omega)).trans hf2
  have g5 : o3.get (nx + 5) = _ := (hk3 _ (by omega) (by omega)).trans hg5
  have m1 : nx + 1 < nx3 := by omega
  have m5 : nx + 5 < nx3 := by omega
  have m8 : nx1 + 2 < nx3 := by omega
  have p1 : nx + 1 ≠ nx2 + 10 := by omega
  have p5 : nx + 5 ≠ nx2 + 10 := by omega
  have p8 : nx1 + 2 ≠ nx2 + 10 := by omega
  have p1' := Ne.symm p1
  have p5' := Ne.symm p5
  have p8' := Ne.symm p8
  have mm : nx2 + 10 < nx3 := by omega
  clear hk1 hk2 hf1
  repeat (first | with_reducible (first | refine n_on ?_ | refine n_seq ?_ | refine s_else ?_ | refine n_t ?_ | refine n_gt ?_ | refine d_t ?_ | refine n_nil ?_ | refine d_nil ?_ | refine n_block ?_ | refine n_skip ?_ | refine n_bon ?_ | refine n_bback ?_ | refine n_back ?_ | refine n_out ?_ | refine n_bout rfl ?_ | refine n_bfar rfl ?_ | refine n_ret ?_ | refine n_exit ?_ | refine n_label ?_ | refine n_scope ?_ | refine n_son ?_ | refine n_sback ?_) | (with_reducible (first | apply n_region | apply d_region); (simp only [JV, JU, JW, Nat.reduceAdd, Nat.zero_add]; exact rfl)) | (with_reducible (first | apply s_op | apply n_guard | apply n_cond | apply d_guard | apply d_op | apply n_fin | apply n_finb); (simp (maxDischargeDepth := 6) only [sy3.1, zY, qG, qP, qQ, qR, qS, qT, rowAt, ↓jg, ↓ji, Nat.reduceAdd, Nat.reduceEqDiff, ne_eq, jG, Nat.reduceLT, if_true, ite_true, Int.reduceLE, Int.reduceLT, Int.reduceEq, Int.reduceNeg, Int.reduceAdd, Nat.reduceSub, if_false, ite_false, fs_3.1, g1, g5, g8, m1, m5, m8, p1, p5, p8, p1', p5', p8', mm, fC, fV, cut_twelve, kind_pure, kind_load, kind_fresh, kind_other, jg, ji, undef]; first | exact rfl | exact ⟨rfl, rfl, rfl, rfl⟩); try (with_reducible refine calmK_in ?_; decide +kernel)))
  refine s_do (fun q => ∃ o4 nx4 l4, q = (.bool R, (⟨o4, nx4, l4⟩ : AHeap)) ∧ nx3 ≤ nx4 ∧ (∀ x, x < nx2 → o4.get x = o3.get x)) (by
    simp (maxDischargeDepth := 6) only [sy3.1, zY, qG, qP, qQ, qR, qS, qT, rowAt, ↓jg, ↓ji, Nat.reduceAdd, Nat.reduceEqDiff, ne_eq, jG, Nat.reduceLT, if_true, ite_true, Int.reduceLE, Int.reduceLT, Int.reduceEq, Int.reduceNeg, Int.reduceAdd, Nat.reduceSub, if_false, ite_false, fs_3.1]
    have h := rright_ok (n := M + 8) (o := ((o3.put (nx2 + 10) (some (.row [.int .u8 0, .int .i64 0] 41 0 true))).put (nx2 + 10) (some (.row [.int .u8 6, .int .i64 0] 41 0 true))).put (nx2 + 10) (some (.row [.int .u8 6, .int .i64 2] 41 0 true))) (nx := nx3 + 9) (lg := noteId (nx2 + 10) (noteId (nx2 + 10) l3)) (en := en) (pr := pr) (cl := cl) (st := st) (pc := pc) (wa := wa) (wt := wt) (d := .slice da2 ld.length dc2) (w := .slice wa2 lw.length wc2) (v := .slice va2 lv.length vc2) (r := .slice ra2 lr.length rc2) (sa := sa2) (m := ls.length) (c := sc2) hO (hP3.keep (by omega) (by (repeat (first | rw [qE] | rw [qF _ _ _ _ (by omega)]))))
    rw [hR] at h
    exact ⟨_, h, _, _, _, rfl, by omega, fun x hx => by (repeat (first | rw [qE] | rw [qF _ _ _ _ (by omega)]))⟩) ?_
  rintro _ _ ⟨o4, nx4, l4, heq, hn4, hk4⟩
  cases heq
  have hP4 : PIn o4 nx4 kp S := hP3.keep hn4 (hk4 _ (by omega))
  have g1 : o4.get (nx + 1) = _ := (hk4 _ (by omega)).trans g1
  have g5 : o4.get (nx + 5) = _ := (hk4 _ (by omega)).trans g5
  have g8 : o4.get (nx1 + 2) = _ := (hk4 _ (by omega)).trans g8
  have m1 : nx + 1 < nx4 := by omega
  have m5 : nx + 5 < nx4 := by omega
  have m8 : nx1 + 2 < nx4 := by omega
  have hk : ∀ x, x < nx2 → x ≠ nx1 + 2 → o4.get x = o2.get x := fun x hx h2 => (hk4 x hx).trans (hk3 x hx h2)
  clear hk3 hk4
  have hN := fun (o : Tr AObj) (nx : Nat) (lg : List Nat) => num_ok (n := M + 8) (o := o) (nx := nx) (lg := lg) hO 1
  have q8 := g8
  cases R
  case' false =>
    have hb0 : (false == false) = true := rfl
    repeat (first | with_reducible (first | refine n_on ?_ | refine n_seq ?_ | refine s_else ?_ | refine n_t ?_ | refine n_gt ?_ | refine d_t ?_ | refine n_nil ?_ | refine d_nil ?_ | refine n_block ?_ | refine n_skip ?_ | refine n_bon ?_ | refine n_bback ?_ | refine n_back ?_ | refine n_out ?_ | refine n_bout rfl ?_ | refine n_bfar rfl ?_ | refine n_ret ?_ | refine n_exit ?_ | refine n_label ?_ | refine n_scope ?_ | refine n_son ?_ | refine n_sback ?_) | (with_reducible (first | apply n_region | apply d_region); (simp only [JV, JU, JW, Nat.reduceAdd, Nat.zero_add]; exact rfl)) | (with_reducible (first | apply s_op | apply n_guard | apply n_cond | apply d_guard | apply d_op | apply n_fin | apply n_finb); (simp (maxDischargeDepth := 6) only [sy3.1, zY, qG, qP, qQ, qR, qS, qT, rowAt, ↓jg, ↓ji, Nat.reduceAdd, Nat.reduceEqDiff, ne_eq, jG, Nat.reduceLT, if_true, ite_true, Int.reduceLE, Int.reduceLT, Int.reduceEq, Int.reduceNeg, Int.reduceAdd, Nat.reduceSub, if_false, ite_false, fs_3.1, g1, g5, g8, m1, m5, m8, hb0, Bool.not_true, fC, fV, cut_twelve, kind_pure, kind_load, kind_fresh, kind_other, jg, ji, undef]; first | exact rfl | exact ⟨rfl, rfl, rfl, rfl⟩); try (with_reducible refine calmK_in ?_; decide +kernel)))
    refine s_do (fun q => ∃ o5 nx5 l5, q = (.tuple #[.agg #[.int .u8 0, .int .i64 0], .int .i64 154], (⟨o5, nx5, l5⟩ : AHeap)) ∧ nx4 + 12 ≤ nx5 ∧ (∀ x, x < nx4 → o5.get x = o4.get x)) (by
      simp (maxDischargeDepth := 6) only [sy3.1, zY, qG, qP, qQ, qR, qS, qT, rowAt, ↓jg, ↓ji, Nat.reduceAdd, Nat.reduceEqDiff, ne_eq, jG, Nat.reduceLT, if_true, ite_true, Int.reduceLE, Int.reduceLT, Int.reduceEq, Int.reduceNeg, Int.reduceAdd, Nat.reduceSub, if_false, ite_false, fs_3.1]
      exact ⟨_, rmake_no (n := M + 7) hO (hP4.keep (by omega) rfl) hR 0, _, _, _, rfl, by omega, fun x hx => rfl⟩) ?_
    rintro _ _ ⟨o5, nx5, l5, heq, hn5, hk5⟩
    cases heq
    have hP5 : PIn o5 nx5 kp S := hP4.keep (by omega) (hk5 _ hP4.1)
    have g5 : o5.get (nx + 5) = _ := (hk5 _ (by omega)).trans g5
    have g8 : o5.get (nx1 + 2) = _ := (hk5 _ (by omega)).trans g8
    have m5 : nx + 5 < nx5 := by omega
    have m8 : nx1 + 2 < nx5 := by omega
    have p5 : nx + 5 ≠ nx4 + 9 := by omega
    have p8 : nx1 + 2 ≠ nx4 + 9 := by omega
    have p5' := Ne.symm p5
    have p8' := Ne.symm p8
    obtain ⟨o6, ho6⟩ : ∃ o6, ((o5.put (nx4 + 9) (some (.row [.int .u8 0, .int .i64 0] 41 0 true))).put (nx4 + 9) (some (.row [.int .u8 0, .int .i64 0] 41 0 true))).put (nx4 + 9) (some (.row [.int .u8 0, .int .i64 0] 41 0 true)) = o6 := ⟨_, rfl⟩
    have h6 : ∀ x, x ≠ nx4 + 9 → o6.get x = o5.get x := fun x hx => by rw [← ho6]; (repeat (first | rw [qE] | rw [qF _ _ _ _ (by omega)]))
    have hP6 : PIn o6 (nx5 + 24) kp S := hP5.keep (by omega) (h6 _ (by omega))
    have g5 : o6.get (nx + 5) = _ := (h6 _ p5).trans g5
    have g8 : o6.get (nx1 + 2) = _ := (h6 _ p8).trans g8
    have m8' : nx1 + 2 < nx5 + 24 := by omega
    have hSet := fun (lg : List Nat) => rset_no (n := M + 5) (lg := lg) (hb := .pointer (some ⟨hb, 0, none⟩)) hO hP6 m8' g8 hR 0 3 1
    have hFr := fun (lg : List Nat) => rfresh_no (n := M + 6) (lg := lg) (hb := .pointer (some ⟨hb, 0, none⟩)) hO hP6 m8' g8 hR 0 3 1
    have hGet := fun (lg : List Nat) => rget_no (n := M + 3) (lg := lg) (en := en) (pr := pr) (cl := cl) (st := st) (pc := pc) (wa := wa) (wt := wt) (d := .slice da2 ld.length dc2) (w := .slice wa2 lw.length wc2) (v := .slice va2 lv.length vc2) (r := .slice ra2 lr.length rc2) (sa := sa2) (m := ls.length) (c := sc2) (hb := .pointer (some ⟨hb, 0, none⟩)) hO hP6 hR 0
    repeat (first | with_reducible (first | refine n_on ?_ | refine n_seq ?_ | refine s_else ?_ | refine n_t ?_ | refine n_gt ?_ | refine d_t ?_ | refine n_nil ?_ | refine d_nil ?_ | refine n_block ?_ | refine n_skip ?_ | refine n_bon ?_ | refine n_bback ?_ | refine n_back ?_ | refine n_out ?_ | refine n_bout rfl ?_ | refine n_bfar rfl ?_ | refine n_ret ?_ | refine n_exit ?_ | refine n_label ?_ | refine n_scope ?_ | refine n_son ?_ | refine n_sback ?_) | (with_reducible (first | apply n_region | apply d_region); (simp only [JV, JU, JW, Nat.reduceAdd, Nat.zero_add]; exact rfl)) | (with_reducible (first | apply s_op | apply n_guard | apply n_cond | apply d_guard | apply d_op | apply n_fin | apply n_finb); (simp (maxDischargeDepth := 6) only [sy3.1, zY, qG, qP, qQ, qR, qS, qT, rowAt, ↓jg, ↓ji, Nat.reduceAdd, Nat.reduceEqDiff, ne_eq, jG, Nat.reduceLT, if_true, ite_true, Int.reduceLE, Int.reduceLT, Int.reduceEq, Int.reduceNeg, Int.reduceAdd, Nat.reduceSub, if_false, ite_false, fs_3.1, ho6, g5, g8, m5, m8, hN, hSet, hFr, hGet, vv00_neq, vv, fC, fV, cut_twelve, kind_pure, kind_load, kind_fresh, kind_other, jg, ji, undef]; first | exact rfl | exact ⟨rfl, rfl, rfl, rfl⟩); try (with_reducible refine calmK_in ?_; decide +kernel)))
    refine s_do (fun q => ∃ wv oT nxT lT, q = (.int .i64 wv, (⟨oT, nxT, lT⟩ : AHeap)) ∧ wv ≤ 500 ∧ nx2 + 12 ≤ nxT ∧ (∀ x, x < nx2 → x ≠ nx1 + 2 → oT.get x = o2.get x) ∧ oT.get (nx1 + 2) = o4.get (nx1 + 2)) (st_min2 (a := want) (b := 500) (by simp only [sy3.1, zY, qG, qP, qQ, qR, qS, qT, rowAt, ↓jg, ↓ji, Nat.reduceAdd, Nat.reduceEqDiff, ne_eq, jG, Nat.reduceLT, if_true, ite_true, Int.reduceLE, Int.reduceLT, Int.reduceEq, Int.reduceNeg, Int.reduceAdd, Nat.reduceSub, if_false, ite_false, fs_3.1]) (by simp only [sy3.1, zY, qG, qP, qQ, qR, qS, qT, rowAt, ↓jg, ↓ji, Nat.reduceAdd, Nat.reduceEqDiff, ne_eq, jG, Nat.reduceLT, if_true, ite_true, Int.reduceLE, Int.reduceLT, Int.reduceEq, Int.reduceNeg, Int.reduceAdd, Nat.reduceSub, if_false, ite_false, fs_3.1]) ⟨_, _, _, _, rfl, by split <;> omega, by omega, fun x hx h2 => (h6 x (by omega)).trans ((hk5 x (by omega)).trans (hk x hx h2)), (h6 _ p8).trans (hk5 _ (by omega))⟩) ?_
  case' true =>
    have hb1 : (true == true) = true := rfl
    repeat (first | with_reducible (first | refine n_on ?_ | refine n_seq ?_ | refine s_else ?_ | refine n_t ?_ | refine n_gt ?_ | refine d_t ?_ | refine n_nil ?_ | refine d_nil ?_ | refine n_block ?_ | refine n_skip ?_ | refine n_bon ?_ | refine n_bback ?_ | refine n_back ?_ | refine n_out ?_ | refine n_bout rfl ?_ | refine n_bfar rfl ?_ | refine n_ret ?_ | refine n_exit ?_ | refine n_label ?_ | refine n_scope ?_ | refine n_son ?_ | refine n_sback ?_) | (with_reducible (first | apply n_region | apply d_region); (simp only [JV, JU, JW, Nat.reduceAdd, Nat.zero_add]; exact rfl)) | (with_reducible (first | apply s_op | apply n_guard | apply n_cond | apply d_guard | apply d_op | apply n_fin | apply n_finb); (simp (maxDischargeDepth := 6) only [sy3.1, zY, qG, qP, qQ, qR, qS, qT, rowAt, ↓jg, ↓ji, Nat.reduceAdd, Nat.reduceEqDiff, ne_eq, jG, Nat.reduceLT, if_true, ite_true, Int.reduceLE, Int.reduceLT, Int.reduceEq, Int.reduceNeg, Int.reduceAdd, Nat.reduceSub, if_false, ite_false, fs_3.1, g1, g5, g8, m1, m5, m8, hb1, Bool.not_true, fC, fV, cut_twelve, kind_pure, kind_load, kind_fresh, kind_other, jg, ji, undef]; first | exact rfl | exact ⟨rfl, rfl, rfl, rfl⟩); try (with_reducible refine calmK_in ?_; decide +kernel)))
    refine s_do (fun q => ∃ wv oT nxT lT, q = (.int .i64 wv, (⟨oT, nxT, lT⟩ : AHeap)) ∧ wv ≤ 500 ∧ nx2 + 12 ≤ nxT ∧ (∀ x, x < nx2 → x ≠ nx1 + 2 → oT.get x = o2.get x) ∧ oT.get (nx1 + 2) = o4.get (nx1 + 2)) (st_min2 (a := want) (b := 500) (by simp only [sy3.1, zY, qG, qP, qQ, qR, qS, qT, rowAt, ↓jg, ↓ji, Nat.reduceAdd, Nat.reduceEqDiff, ne_eq, jG, Nat.reduceLT, if_true, ite_true, Int.reduceLE, Int.reduceLT, Int.reduceEq, Int.reduceNeg, Int.reduceAdd, Nat.reduceSub, if_false, ite_false, fs_3.1]) (by simp only [sy3.1, zY, qG, qP, qQ, qR, qS, qT, rowAt, ↓jg, ↓ji, Nat.reduceAdd, Nat.reduceEqDiff, ne_eq, jG, Nat.reduceLT, if_true, ite_true, Int.reduceLE, Int.reduceLT, Int.reduceEq, Int.reduceNeg, Int.reduceAdd, Nat.reduceSub, if_false, ite_false, fs_3.1]) ⟨_, _, _, _, rfl, by split <;> omega, by omega, hk, rfl⟩) ?_
  all_goals (
    rintro _ _ ⟨wv, oT, nxT, lT, heq, hwv, hnT, hkT, hT8⟩
    cases heq
    have g8 : oT.get (nx1 + 2) = _ := hT8.trans q8
    have g1 : oT.get (nx + 1) = _ := (hkT _ (by omega) (by omega)).trans hf2
    have g5 : oT.get (nx + 5) = _ := (hkT _ (by omega) (by omega)).trans hg5
    have m1 : nx + 1 < nxT := by omega
    have m5 : nx + 5 < nxT := by omega
    have m8 : nx1 + 2 < nxT := by omega
    have hSn := fun (o : Tr AObj) (nx : Nat) (lg : List Nat) => rset_nil (n := M + 8) (o := o) (nx := nx) (lg := lg) (kp := kp) (hb := .pointer (some ⟨hb, 0, none⟩)) hO 0 3 1
    have hFn := fun (o : Tr AObj) (nx : Nat) (lg : List Nat) => rfresh_nil (n := M + 8) (o := o) (nx := nx) (lg := lg) (kp := kp) (hb := .pointer (some ⟨hb, 0, none⟩)) hO 0 3 1
    repeat (first | with_reducible (first | refine n_on ?_ | refine n_seq ?_ | refine s_else ?_ | refine n_t ?_ | refine n_gt ?_ | refine d_t ?_ | refine n_nil ?_ | refine d_nil ?_ | refine n_block ?_ | refine n_skip ?_ | refine n_bon ?_ | refine n_bback ?_ | refine n_back ?_ | refine n_out ?_ | refine n_bout rfl ?_ | refine n_bfar rfl ?_ | refine n_ret ?_ | refine n_exit ?_ | refine n_label ?_ | refine n_scope ?_ | refine n_son ?_ | refine n_sback ?_) | (with_reducible (first | apply n_region | apply d_region); (simp only [JV, JU, JW, Nat.reduceAdd, Nat.zero_add]; exact rfl)) | (with_reducible (first | apply s_op | apply n_guard | apply n_cond | apply d_guard | apply d_op | apply n_fin | apply n_finb); (simp (maxDischargeDepth := 6) only [sy3.1, zY, qG, qP, qQ, qR, qS, qT, rowAt, ↓jg, ↓ji, Nat.reduceAdd, Nat.reduceEqDiff, ne_eq, jG, Nat.reduceLT, if_true, ite_true, Int.reduceLE, Int.reduceLT, Int.reduceEq, Int.reduceNeg, Int.reduceAdd, Nat.reduceSub, if_false, ite_false, fs_3.1, g1, g5, g8, m1, m5, m8, hN, hSn, hFn, vv, fC, fV, cut_twelve, kind_pure, kind_load, kind_fresh, kind_other, jg, ji, undef]; first | exact rfl | exact ⟨rfl, rfl, rfl, rfl⟩); try (with_reducible refine calmK_in ?_; decide +kernel)))
    have kT : ∀ x, nx1 + 4 ≤ x → x < nx2 → oT.get x = o2.get x := fun x h1 h2 => hkT x h2 (by omega)
    refine d_new (ResV oT (nxT + 32) [] (adjL ld wv)) (by
      simp (maxDischargeDepth := 6) only [sy3.1, zY, qG, qP, qQ, qR, qS, qT, rowAt, ↓jg, ↓ji, Nat.reduceAdd, Nat.reduceEqDiff, ne_eq, jG, Nat.reduceLT, if_true, ite_true, Int.reduceLE, Int.reduceLT, Int.reduceEq, Int.reduceNeg, Int.reduceAdd, Nat.reduceSub, if_false, ite_false, fs_3.1]
      exact fadj_ok (n := M + 7) hO (ad2.keep (Nat.le_refl _) (by omega) kT) bd hwv) (resV_class (P := Try.prog) rfl) (by decide +kernel) ?_
    rintro cA oA nxA lA ⟨_, _, _, heq, hnA, hkA, haA⟩
    cases heq
    have g1 : oA.get (nx + 1) = _ := (hkA _ (by omega)).trans g1
    have g8 : oA.get (nx1 + 2) = _ := (hkA _ (by omega)).trans g8
    have m1 : nx + 1 < nxA := by omega
    have m8 : nx1 + 2 < nxA := by omega
    repeat (first | with_reducible (first | refine n_on ?_ | refine n_seq ?_ | refine s_else ?_ | refine n_t ?_ | refine n_gt ?_ | refine d_t ?_ | refine n_nil ?_ | refine d_nil ?_ | refine n_block ?_ | refine n_skip ?_ | refine n_bon ?_ | refine n_bback ?_ | refine n_back ?_ | refine n_out ?_ | refine n_bout rfl ?_ | refine n_bfar rfl ?_ | refine n_ret ?_ | refine n_exit ?_ | refine n_label ?_ | refine n_scope ?_ | refine n_son ?_ | refine n_sback ?_) | (with_reducible (first | apply n_region | apply d_region); (simp only [JV, JU, JW, Nat.reduceAdd, Nat.zero_add]; exact rfl)) | (with_reducible (first | apply s_op | apply n_guard | apply n_cond | apply d_guard | apply d_op | apply n_fin | apply n_finb); (simp (maxDischargeDepth := 6) only [sy3.1, zY, qG, qP, qQ, qR, qS, qT, rowAt, ↓jg, ↓ji, Nat.reduceAdd, Nat.reduceEqDiff, ne_eq, jG, Nat.reduceLT, if_true, ite_true, Int.reduceLE, Int.reduceLT, Int.reduceEq, Int.reduceNeg, Int.reduceAdd, Nat.reduceSub, if_false, ite_false, fs_3.1, g1, g8, m1, m8, fC, fV, cut_twelve, kind_pure, kind_load, kind_fresh, kind_other, jg, ji, undef]; first | exact rfl | exact ⟨rfl, rfl, rfl, rfl⟩); try (with_reducible refine calmK_in ?_; decide +kernel)))
    have holdA : ∀ x, x < nx → oA.get x = o.get x := fun x hx => (hkA x (by omega)).trans ((hkT x (by omega) (by omega)).trans ((hold2 x (by omega) (by omega)).trans (hold1 x hx)))
    refine d_new (NewV oA nxA [] (adjL ld wv)) (by
      simp (maxDischargeDepth := 6) only [sy3.1, zY, qG, qP, qQ, qR, qS, qT, rowAt, ↓jg, ↓ji, Nat.reduceAdd, Nat.reduceEqDiff, ne_eq, jG, Nat.reduceLT, if_true, ite_true, Int.reduceLE, Int.reduceLT, Int.reduceEq, Int.reduceNeg, Int.reduceAdd, Nat.reduceSub, if_false, ite_false, fs_3.1]
      exact fuelAt (k := 2000000) (by omega) (refadj_ok (n := M + 9 - 2000000) hO (hd.keep (by omega) holdA) bd hwv)) (newV_class (P := Try.prog) rfl) (by decide +kernel) ?_
    rintro cB oB nxB lB ⟨_, _, _, heq, hnB, hkB, haB⟩
    cases heq
    have g1 : oB.get (nx + 1) = _ := (hkB _ m1).trans g1
    have g8 : oB.get (nx1 + 2) = _ := (hkB _ m8).trans g8
    have m1 : nx + 1 < nxB := by omega
    have m8 : nx1 + 2 < nxB := by omega
    have holdB : ∀ x, x < nx → oB.get x = o.get x := fun x hx => (hkB x (by omega)).trans (holdA x hx)
    have kB : ∀ x, nx1 + 4 ≤ x → x < nx2 → oB.get x = o2.get x := fun x h1 h2 => (hkB x (by omega)).trans ((hkA x (by omega)).trans (kT x h1 h2))
    have hla : (adjL ld wv).length ≤ 1048576 := adjL_len bd hwv
    have hSV := fun (lg : List Nat) => (fuelEq (k := 2000000) (by omega) (sameV_ok (n := M + 9 - 2000000) (o := oB) (nx := nxB) (lg := lg) hO (haA.keep hnB hkB) haB.sl hla hla)).trans (by rw [decide_eq_true rfl] : _ = some (Value.bool true, (⟨oB, nxB, lg⟩ : AHeap)))
    have hSF := fun (lg : List Nat) => fuelEq (k := 2000001) (by omega) (samef_ok (n := M + 9 - 2000001) (o := oB) (nx := nxB) (lg := lg) (en := en) (pr := pr) (cl := cl) (st := st) (pc := pc) (wa := wa) (wt := wt) hO (as2.keep (Nat.le_refl _) (by omega) kB).sl (hs.keep (by omega) holdB) (ad2.keep (Nat.le_refl _) (by omega) kB).sl (hd.keep (by omega) holdB) (aw2.keep (Nat.le_refl _) (by omega) kB).sl (hw.keep (by omega) holdB) (av2.keep (Nat.le_refl _) (by omega) kB).sl (hv.keep (by omega) holdB) (ar2.keep (Nat.le_refl _) (by omega) kB).sl (hr.keep (by omega) holdB) bs bd bw bv br)
    have hAw := fun (o : Tr AObj) (nx : Nat) (lg : List Nat) => awake_help (M + 8) o nx lg
    repeat (first | with_reducible (first | refine n_on ?_ | refine n_seq ?_ | refine s_else ?_ | refine n_t ?_ | refine n_gt ?_ | refine d_t ?_ | refine n_nil ?_ | refine d_nil ?_ | refine n_block ?_ | refine n_skip ?_ | refine n_bon ?_ | refine n_bback ?_ | refine n_back ?_ | refine n_out ?_ | refine n_bout rfl ?_ | refine n_bfar rfl ?_ | refine n_ret ?_ | refine n_exit ?_ | refine n_label ?_ | refine n_scope ?_ | refine n_son ?_ | refine n_sback ?_) | (with_reducible (first | apply n_region | apply d_region); (simp only [JV, JU, JW, Nat.reduceAdd, Nat.zero_add]; exact rfl)) | (with_reducible (first | apply s_op | apply n_guard | apply n_cond | apply d_guard | apply d_op | apply n_fin | apply n_finb); (simp (maxDischargeDepth := 6) only [sy3.1, zY, qG, qP, qQ, qR, qS, qT, rowAt, ↓jg, ↓ji, Nat.reduceAdd, Nat.reduceEqDiff, ne_eq, jG, Nat.reduceLT, if_true, ite_true, Int.reduceLE, Int.reduceLT, Int.reduceEq, Int.reduceNeg, Int.reduceAdd, Nat.reduceSub, if_false, ite_false, fs_3.1, g1, g8, m1, m8, hSV, hSF, hAw, fC, fV, cut_twelve, kind_pure, kind_load, kind_fresh, kind_other, jg, ji, undef]; first | exact rfl | exact ⟨rfl, rfl, rfl, rfl⟩); try (with_reducible refine calmK_in ?_; decide +kernel)))
    exact leave_fst _ _ _)
end
end Go.Proofs.Yteomehedmfemiaa
