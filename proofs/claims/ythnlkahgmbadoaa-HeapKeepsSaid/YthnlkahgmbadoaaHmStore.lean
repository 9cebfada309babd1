/- Heap: Store, Has, Used, Max, on the abstract machine. -/
import Derived.Test.YthnlkahgmbadoaaHmCell
import Derived.Test.YthnlkahgmbadoaaHmGood0
namespace Go.Proofs.Ythnlkahgmbadoaa
open Go.RowKit
set_option linter.unusedSimpArgs false
set_option linter.unusedVariables false
set_option maxRecDepth 100000

def setOb (l : List (Int × Ob)) (d : Int) (ob : Ob) : List (Int × Ob) := l.map fun q => if q.1 = d then (q.1, ob) else q
def storeO (hs : HS) (c v : VV) : HS × Int := match ofO hs c 9 with
  | none => (hs, 151)
  | some ob => if keepO hs v = true then ({ hs with objs := setOb hs.objs c.2 { ob with has := v }, noted := noteL hs c.2 }, 0) else (hs, 150)
theorem setOb_kv (B : HB) (l : List (Int × Ob)) (d : Int) (ob : Ob) : objKV B (setOb l d ob) = objKV B l := by
  unfold objKV setOb
  rw [List.map_map]
  refine List.map_congr_left fun q _ => ?_
  show ((if q.1 = d then (q.1, ob) else q).1, Value.pointer (some ⟨B.bl (if q.1 = d then (q.1, ob) else q).1, 0, none⟩)) = _
  by_cases e : q.1 = d
  · rw [if_pos e]
  · rw [if_neg e]
section
variable {O : Helps} {n : Nat} {o : Tr AObj} {nx : Nat} {lg : List Nat} {w : Nat → Nat} {B : HB} {hs : HS}
/-- an object of which one row alone was turned -/
theorem heap_set {o' : Tr AObj} {nx' : Nat} (h : HeapIn o nx w B hs) (hG : HGood hs) {d : Int} {ob ob' : Ob} (hm : (d, ob) ∈ hs.objs) (hn : nx ≤ nx') {tp sp : Option Addr} {ca : Option Nat} {cc zz : Nat} (hr : o.get (B.bl d) = some (.row (obRow ob tp sp ca cc) 72 zz true))
    (hr' : o'.get (B.bl d) = some (.row (obRow ob' tp sp ca cc) 72 zz true)) (hk : ob'.kind = ob.kind) (hc : ob'.cells = ob.cells) (ht : ob'.tab = ob.tab) (hrest : ∀ x, x < nx → x ≠ B.bl d → o'.get x = o.get x) : HeapIn o' nx' w B { hs with objs := setOb hs.objs d ob' } := by
  have hd := h.obs _ hm
  have hdo := hd.own
  simp only at hd hdo
  have hne : ∀ x, w x ≠ 8 + 5 * d.toNat → x ≠ B.bl d := fun x hx e => hx (by rw [e]; exact hdo)
  obtain ⟨z, hrow⟩ := h.row
  obtain ⟨esA, cA, hmA, hmapA⟩ := h.all
  obtain ⟨esT, cT, hmT, hmapT⟩ := h.texts
  obtain ⟨esN, cN, hmN, hmapN⟩ := h.noted
  have g : ∀ x k, w x = k + 1 → k < 7 → o'.get x = o.get x := fun x k e hk => hrest x (h.wlt x (by omega)) (hne x (by omega))
  have hpos : ∀ q ∈ hs.objs, 1 ≤ q.1 := fun q hq => by
    obtain ⟨k, hk, _⟩ := hasP_in hG.pool.len (hG.ids q hq)
    omega
  refine ⟨fun x hx => Nat.lt_of_lt_of_le (h.wlt x hx) hn, h.wi, h.wp, h.wa, h.wb, h.wma, h.wmt, h.wmn, ⟨z, ?_⟩, h.pool.keep hn ?_, ⟨esA, cA, ?_, ?_⟩, fun q hq => ?_, ⟨esT, cT, ?_, hmapT⟩, ⟨esN, cN, ?_, hmapN⟩⟩
  · rw [g _ 0 h.wi (by decide)]; exact hrow
  · rintro x (rfl | e3 | e3)
    · exact g _ 1 h.wp (by decide)
    · exact g _ 2 (h.wa x e3) (by decide)
    · exact g _ 3 (h.wb x e3) (by decide)
  · rw [g _ 4 h.wma (by decide)]; exact hmA
  · rw [setOb_kv]; exact hmapA
  · unfold setOb at hq
    obtain ⟨q0, hq0, e⟩ := List.mem_map.1 hq
    by_cases e1 : q0.1 = d
    · rw [if_pos e1] at e
      subst e
      simp only [e1]
      obtain ⟨tp', sp', ca', cc', z', h1, h2, hcc, h4, h5⟩ := hd.ex
      rw [h1] at hr
      simp only [Option.some.injEq, AObj.row.injEq, List.cons.injEq, Value.pointer.injEq, Value.slice.injEq, true_and, and_true] at hr
      obtain ⟨⟨rfl, ⟨e1, rfl⟩, rfl⟩, rfl⟩ := hr
      have e1 : ca' = ca := by
        cases ca' <;> cases ca <;> simp [slA] at e1
        · rfl
        · rw [e1]
      subst e1
      refine ⟨Nat.lt_of_lt_of_le hd.lt hn, hdo, _, _, _, _, _, hr', ?_, ?_, h4, fun hk5 => ?_⟩
      · rw [hc]
        refine h2.keep hn fun q e => hrest q ?_ (hne q (by rw [h4 q e]; omega))
        rcases h2 with ⟨e2, _⟩ | ⟨j, _, e2, hj, _⟩
        · rw [e] at e2; cases e2
        · rw [e] at e2; cases e2; exact hj
      · rw [hc]; exact hcc
      · rw [hk] at hk5
        obtain ⟨ti, tm, ta, g1, g2, g3, g4, g5⟩ := h5 hk5
        refine ⟨ti, tm, ta, g1, ?_, g3, g4, g5⟩
        rw [ht]
        refine g2.keep hn fun x hx => hrest x (g2.mine_lt hx) (hne x ?_)
        rcases hx with rfl | rfl | hx
        · rw [g3]; omega
        · rw [g4]; omega
        · rw [g5 x hx]; omega
    · rw [if_neg e1] at e
      subst e
      refine (h.obs _ hq0).keep hn fun x hx hob => ⟨hrest x hx (hne x ?_), rfl⟩
      have p1 := hpos _ hq0
      have p2 := hpos _ hm
      simp only at p2
      have := hob.1
      have := hob.2
      have : q0.1.toNat ≠ d.toNat := by omega
      omega
  · rw [g _ 5 h.wmt (by decide)]; exact hmT
  · rw [g _ 6 h.wmn (by decide)]; exact hmN
set_option maxHeartbeats 8000000 in
theorem has_ok (hO : Clear O) (h : HeapIn o nx w B hs) (v : VV) : oCall Try.prog [] O (n + 3) 18 [.pointer (some ⟨B.i, 0, none⟩), .agg #[.int .u8 v.1, .int .i64 v.2]] ⟨o, nx, lg⟩ = some (.bool (findO hs v).isSome, ⟨o, nx, lg⟩) := by
  refine of_got ?_
  have hf := fun (X : AObj) (q : Nat) (lg : List Nat) => find_ok (n := n) (lg := lg) hO (more1 h (some X) q) v
  have hfn := found_neq B hs v
  generalize hfv : foundV B hs v = fv at hf hfn
  rw [y_fn (rs := [.tmp 4]) (hO _ (by decide)) Try.func18 rfl (by kernel_rfl) rfl rfl]
  repeat (first | with_reducible (first | refine n_on ?_ | refine n_seq ?_ | refine s_else ?_ | refine n_t ?_ | refine n_gt ?_ | refine d_t ?_ | refine n_nil ?_ | refine d_nil ?_ | refine n_block ?_ | refine n_skip ?_ | refine n_bon ?_ | refine n_bback ?_ | refine n_back ?_ | refine n_out ?_ | refine n_bout rfl ?_ | refine n_bfar rfl ?_ | refine n_ret ?_ | refine n_exit ?_ | refine n_label ?_ | refine n_scope ?_ | refine n_son ?_ | refine n_sback ?_) | (with_reducible (first | apply n_region | apply d_region); (simp only [JV, JU, JW, Nat.reduceAdd, Nat.zero_add]; exact rfl)) | (with_reducible (first | apply s_op | apply n_guard | apply n_cond | apply d_guard | apply d_op | apply n_fin | apply n_finb); (simp (maxDischargeDepth := 6) only [sy3.1, zY, qG, qP, qQ, qR, qS, qT, rowAt, ↓jg, ↓ji, Nat.reduceAdd, Nat.reduceEqDiff, ne_eq, jG, Nat.reduceLT, if_true, ite_true, Int.reduceLE, Int.reduceLT, Int.reduceEq, Int.reduceNeg, Int.reduceAdd, Nat.reduceSub, if_false, ite_false, fs_18.1, hf, hfn, kind_pure, kind_load, kind_fresh, kind_other, jg, ji, undef]; first | exact rfl | exact ⟨rfl, rfl, rfl, rfl⟩); try (with_reducible refine calmK_in ?_; decide +kernel)))
  try exact Ja (by rfl) (by rfl)
set_option maxHeartbeats 8000000 in
theorem used_ok (hO : Clear O) (h : HeapIn o nx w B hs) : oCall Try.prog [] O (n + 3) 19 [.pointer (some ⟨B.i, 0, none⟩)] ⟨o, nx, lg⟩ = some (.int .i64 hs.pool.used, ⟨o, nx, lg⟩) := by
  refine of_got ?_
  obtain ⟨z, hr⟩ := h.row
  have hright := hright_ok (n := n + 1) (i := B.i) (m := B.ma) (p := B.p) (c0 := .int .i64 hs.max) (c3 := .map (some B.mt)) (c4 := .int .i64 hs.made) (c5 := .bool hs.watch) (c6 := .map (some B.mn)) (e := 64) (z := z) (own := true) hO
  have hU := fun (q : Nat) (lg : List Nat) => pused_ok (n := n) (o := o) (nx := nx + q) (lg := lg) hO (h.pool.more (by omega) fun x hx => rfl)
  rw [y_fn (rs := [.tmp 2]) (hO _ (by decide)) Try.func19 rfl (by kernel_rfl) rfl rfl]
  repeat (first | with_reducible (first | refine n_on ?_ | refine n_seq ?_ | refine s_else ?_ | refine n_t ?_ | refine n_gt ?_ | refine d_t ?_ | refine n_nil ?_ | refine d_nil ?_ | refine n_block ?_ | refine n_skip ?_ | refine n_bon ?_ | refine n_bback ?_ | refine n_back ?_ | refine n_out ?_ | refine n_bout rfl ?_ | refine n_bfar rfl ?_ | refine n_ret ?_ | refine n_exit ?_ | refine n_label ?_ | refine n_scope ?_ | refine n_son ?_ | refine n_sback ?_) | (with_reducible (first | apply n_region | apply d_region); (simp only [JV, JU, JW, Nat.reduceAdd, Nat.zero_add]; exact rfl)) | (with_reducible (first | apply s_op | apply n_guard | apply n_cond | apply d_guard | apply d_op | apply n_fin | apply n_finb); (simp (maxDischargeDepth := 6) only [sy3.1, zY, qG, qP, qQ, qR, qS, qT, rowAt, ↓jg, ↓ji, Nat.reduceAdd, Nat.reduceEqDiff, ne_eq, jG, Nat.reduceLT, if_true, ite_true, Int.reduceLE, Int.reduceLT, Int.reduceEq, Int.reduceNeg, Int.reduceAdd, Nat.reduceSub, if_false, ite_false, fs_19.1, heapRow, hr, hright, hU, kind_pure, kind_load, kind_fresh, kind_other, jg, ji, undef]; first | exact rfl | exact ⟨rfl, rfl, rfl, rfl⟩); try (with_reducible refine calmK_in ?_; decide +kernel)))
  try exact Ja (by rfl) (by rfl)
set_option maxHeartbeats 8000000 in
theorem max_ok (hO : Clear O) (h : HeapIn o nx w B hs) : oCall Try.prog [] O (n + 2) 20 [.pointer (some ⟨B.i, 0, none⟩)] ⟨o, nx, lg⟩ = some (.int .i64 hs.max, ⟨o, nx, lg⟩) := by
  refine of_got ?_
  obtain ⟨z, hr⟩ := h.row
  have hright := hright_ok (n := n) (i := B.i) (m := B.ma) (p := B.p) (c0 := .int .i64 hs.max) (c3 := .map (some B.mt)) (c4 := .int .i64 hs.made) (c5 := .bool hs.watch) (c6 := .map (some B.mn)) (e := 64) (z := z) (own := true) hO
  rw [y_fn (rs := [.tmp 2]) (hO _ (by decide)) Try.func20 rfl (by kernel_rfl) rfl rfl]
  repeat (first | with_reducible (first | refine n_on ?_ | refine n_seq ?_ | refine s_else ?_ | refine n_t ?_ | refine n_gt ?_ | refine d_t ?_ | refine n_nil ?_ | refine d_nil ?_ | refine n_block ?_ | refine n_skip ?_ | refine n_bon ?_ | refine n_bback ?_ | refine n_back ?_ | refine n_out ?_ | refine n_bout rfl ?_ | refine n_bfar rfl ?_ | refine n_ret ?_ | refine n_exit ?_ | refine n_label ?_ | refine n_scope ?_ | refine n_son ?_ | refine n_sback ?_) | (with_reducible (first | apply n_region | apply d_region); (simp only [JV, JU, JW, Nat.reduceAdd, Nat.zero_add]; exact rfl)) | (with_reducible (first | apply s_op | apply n_guard | apply n_cond | apply d_guard | apply d_op | apply n_fin | apply n_finb); (simp (maxDischargeDepth := 6) only [sy3.1, zY, qG, qP, qQ, qR, qS, qT, rowAt, ↓jg, ↓ji, Nat.reduceAdd, Nat.reduceEqDiff, ne_eq, jG, Nat.reduceLT, if_true, ite_true, Int.reduceLE, Int.reduceLT, Int.reduceEq, Int.reduceNeg, Int.reduceAdd, Nat.reduceSub, if_false, ite_false, fs_20.1, heapRow, hr, hright, kind_pure, kind_load, kind_fresh, kind_other, jg, ji, undef]; first | exact rfl | exact ⟨rfl, rfl, rfl, rfl⟩); try (with_reducible refine calmK_in ?_; decide +kernel)))
  try exact Ja (by rfl) (by rfl)
set_option maxHeartbeats 16000000 in
theorem store_ok (hO : Clear O) (h : HeapIn o nx w B hs) (hG : HGood hs) (c v : VV) : Got (oCall Try.prog [] O (n + 4) 15 [.pointer (some ⟨B.i, 0, none⟩), .agg #[.int .u8 c.1, .int .i64 c.2], .agg #[.int .u8 v.1, .int .i64 v.2]] ⟨o, nx, lg⟩) (HTo o nx lg w B hs (storeO hs c v).1 (.int .i64 (storeO hs c v).2)) := by
  obtain ⟨z, hr⟩ := h.row
  have hi := h.lt
  have hof := fun (X Y : AObj) (q : Nat) (lg : List Nat) => of_ok (n := n) (lg := lg) hO (more2 h (some X) (some Y) (q + 1) (by omega)) c 9
  have hkeep := fun (X Y : AObj) (q : Nat) (lg : List Nat) => keep_ok (n := n) (lg := lg) hO (more2 h (some X) (some Y) (q + 1) (by omega)) v
  have hright := hright_ok (n := n + 2) (i := B.i) (m := B.ma) (p := B.p) (c0 := .int .i64 hs.max) (c3 := .map (some B.mt)) (c4 := .int .i64 hs.made) (c5 := .bool hs.watch) (c6 := .map (some B.mn)) (e := 64) (z := z) (own := true) hO
  unfold storeO ofO
  rw [y_fn (rs := [.tmp 6]) (hO _ (by decide)) Try.func15 rfl (by kernel_rfl) rfl rfl]
  have hnone : ∀ {r : Option Ob}, r = none → True := fun _ => trivial
  by_cases h9 : c.1 = 9
  · rw [if_pos h9] at hof ⊢
    unfold foundV at hof
    cases hf : findO hs c with
    | none =>
      rw [hf] at hof
      repeat (first | with_reducible (first | refine n_on ?_ | refine n_seq ?_ | refine s_else ?_ | refine n_t ?_ | refine n_gt ?_ | refine d_t ?_ | refine n_nil ?_ | refine d_nil ?_ | refine n_block ?_ | refine n_skip ?_ | refine n_bon ?_ | refine n_bback ?_ | refine n_back ?_ | refine n_out ?_ | refine n_bout rfl ?_ | refine n_bfar rfl ?_ | refine n_ret ?_ | refine n_exit ?_ | refine n_label ?_ | refine n_scope ?_ | refine n_son ?_ | refine n_sback ?_) | (with_reducible (first | apply n_region | apply d_region); (simp only [JV, JU, JW, Nat.reduceAdd, Nat.zero_add]; exact rfl)) | (with_reducible (first | apply s_op | apply n_guard | apply n_cond | apply d_guard | apply d_op | apply n_fin | apply n_finb); (simp (maxDischargeDepth := 6) only [sy3.1, zY, qG, qP, qQ, qR, qS, qT, rowAt, ↓jg, ↓ji, Nat.reduceAdd, Nat.reduceEqDiff, ne_eq, jG, Nat.reduceLT, if_true, ite_true, Int.reduceLE, Int.reduceLT, Int.reduceEq, Int.reduceNeg, Int.reduceAdd, Nat.reduceSub, if_false, ite_false, fs_15.1, heapRow, hr, hi, hright, hof, ptr0_eql, kind_pure, kind_load, kind_fresh, kind_other, jg, ji, undef]; first | exact rfl | exact ⟨rfl, rfl, rfl, rfl⟩); try (with_reducible refine calmK_in ?_; decide +kernel)))
      exact quiet_end (by simp only [all_relogL, js, ju, List.all_nil, jt, Bool.and_self]) (by rfl) (.same h _)
    | some ob =>
      rw [hf] at hof
      obtain ⟨hm, hkd⟩ := found_in hf
      have hob := h.obs _ hm
      obtain ⟨tp, sp, ca, cc, zz, hro, _⟩ := hob.ex
      have hbl := hob.lt
      have hown := hob.own
      simp only at hro hbl hown
      cases hk : keepO hs v with
      | false =>
        rw [hk] at hkeep
        simp only [Bool.false_eq_true, if_false]
        repeat (first | with_reducible (first | refine n_on ?_ | refine n_seq ?_ | refine s_else ?_ | refine n_t ?_ | refine n_gt ?_ | refine d_t ?_ | refine n_nil ?_ | refine d_nil ?_ | refine n_block ?_ | refine n_skip ?_ | refine n_bon ?_ | refine n_bback ?_ | refine n_back ?_ | refine n_out ?_ | refine n_bout rfl ?_ | refine n_bfar rfl ?_ | refine n_ret ?_ | refine n_exit ?_ | refine n_label ?_ | refine n_scope ?_ | refine n_son ?_ | refine n_sback ?_) | (with_reducible (first | apply n_region | apply d_region); (simp only [JV, JU, JW, Nat.reduceAdd, Nat.zero_add]; exact rfl)) | (with_reducible (first | apply s_op | apply n_guard | apply n_cond | apply d_guard | apply d_op | apply n_fin | apply n_finb); (simp (maxDischargeDepth := 6) only [sy3.1, zY, qG, qP, qQ, qR, qS, qT, rowAt, ↓jg, ↓ji, Nat.reduceAdd, Nat.reduceEqDiff, ne_eq, jG, Nat.reduceLT, if_true, ite_true, Int.reduceLE, Int.reduceLT, Int.reduceEq, Int.reduceNeg, Int.reduceAdd, Nat.reduceSub, if_false, ite_false, fs_15.1, heapRow, obRow, hr, hi, hright, hof, hkeep, hro, hbl, kind_pure, kind_load, kind_fresh, kind_other, jg, ji, undef]; first | exact rfl | exact ⟨rfl, rfl, rfl, rfl⟩); try (with_reducible refine calmK_in ?_; decide +kernel)))
        exact quiet_end (by simp only [all_relogL, js, ju, List.all_nil, jt, Bool.and_self]) (by rfl) (.same h _)
      | true =>
        rw [hk] at hkeep
        simp only [if_true]
        have hbi : B.bl c.2 ≠ B.i := fun e => by rw [e, h.wi] at hown; omega
        have hib := Ne.symm hbi
        repeat (first | with_reducible (first | refine n_on ?_ | refine n_seq ?_ | refine s_else ?_ | refine n_t ?_ | refine n_gt ?_ | refine d_t ?_ | refine n_nil ?_ | refine d_nil ?_ | refine n_block ?_ | refine n_skip ?_ | refine n_bon ?_ | refine n_bback ?_ | refine n_back ?_ | refine n_out ?_ | refine n_bout rfl ?_ | refine n_bfar rfl ?_ | refine n_ret ?_ | refine n_exit ?_ | refine n_label ?_ | refine n_scope ?_ | refine n_son ?_ | refine n_sback ?_) | (with_reducible (first | apply n_region | apply d_region); (simp only [JV, JU, JW, Nat.reduceAdd, Nat.zero_add]; exact rfl)) | (with_reducible (first | apply s_op | apply n_guard | apply n_cond | apply d_guard | apply d_op | apply n_fin | apply n_finb); (simp (maxDischargeDepth := 6) only [sy3.1, zY, qG, qP, qQ, qR, qS, qT, rowAt, ↓jg, ↓ji, Nat.reduceAdd, Nat.reduceEqDiff, ne_eq, jG, Nat.reduceLT, if_true, ite_true, Int.reduceLE, Int.reduceLT, Int.reduceEq, Int.reduceNeg, Int.reduceAdd, Nat.reduceSub, if_false, ite_false, fs_15.1, heapRow, obRow, hr, hi, hright, hof, hkeep, hro, hbl, hbi, hib, kind_pure, kind_load, kind_fresh, kind_other, jg, ji, undef]; first | exact rfl | exact ⟨rfl, rfl, rfl, rfl⟩); try (with_reducible refine calmK_in ?_; decide +kernel)))
        have h0 := more2 h (some (.row [.int .u8 c.1, .int .i64 c.2] 30 0 true)) (some (.row [.int .u8 v.1, .int .i64 v.2] 30 0 true)) 27 (by omega)
        refine s_do _ (by
          simp (maxDischargeDepth := 6) only [sy3.1, zY, qG, qP, qQ, qR, qS, qT, rowAt, ↓jg, ↓ji, Nat.reduceAdd, Nat.reduceEqDiff, ne_eq, jG, Nat.reduceLT, if_true, ite_true, Int.reduceLE, Int.reduceLT, Int.reduceEq, Int.reduceNeg, Int.reduceAdd, Nat.reduceSub, if_false, ite_false, fs_15.1]
          exact note_ok hO (heap_set (ob' := { ob with has := v }) h0 hG hm (Nat.le_refl _) (by (repeat (first | rw [qE] | rw [qF _ _ _ _ (by omega)])); exact hro) (qE _ _ _) rfl rfl rfl fun x hx hxb => by (repeat (first | rw [qE] | rw [qF _ _ _ _ (by omega)]))) c.2) ?_
        rintro v1 H1 ⟨o1, nx1, lg1, heq, hn1, hH1, hfr, hmo⟩
        cases heq
        repeat (first | with_reducible (first | refine n_on ?_ | refine n_seq ?_ | refine s_else ?_ | refine n_t ?_ | refine n_gt ?_ | refine d_t ?_ | refine n_nil ?_ | refine d_nil ?_ | refine n_block ?_ | refine n_skip ?_ | refine n_bon ?_ | refine n_bback ?_ | refine n_back ?_ | refine n_out ?_ | refine n_bout rfl ?_ | refine n_bfar rfl ?_ | refine n_ret ?_ | refine n_exit ?_ | refine n_label ?_ | refine n_scope ?_ | refine n_son ?_ | refine n_sback ?_) | (with_reducible (first | apply n_region | apply d_region); (simp only [JV, JU, JW, Nat.reduceAdd, Nat.zero_add]; exact rfl)) | (with_reducible (first | apply s_op | apply n_guard | apply n_cond | apply d_guard | apply d_op | apply n_fin | apply n_finb); (simp (maxDischargeDepth := 6) only [sy3.1, zY, qG, qP, qQ, qR, qS, qT, rowAt, ↓jg, ↓ji, Nat.reduceAdd, Nat.reduceEqDiff, ne_eq, jG, Nat.reduceLT, if_true, ite_true, Int.reduceLE, Int.reduceLT, Int.reduceEq, Int.reduceNeg, Int.reduceAdd, Nat.reduceSub, if_false, ite_false, fs_15.1, hr, kind_pure, kind_load, kind_fresh, kind_other, jg, ji, undef]; first | exact rfl | exact ⟨rfl, rfl, rfl, rfl⟩); try (with_reducible refine calmK_in ?_; decide +kernel)))
        refine hto_end h (w' := w) (B' := B) (by rfl) (hH1.keep (by omega) (fun x hx => by have := hH1.wlt x hx; omega) fun x hx => ⟨rfl, rfl⟩) (by omega) rfl (fun x hx hw0 => ⟨?_, hw0⟩) (.inl ⟨B.bl c.2, hmo _ (by simp only [in_note, true_or]), by rw [hown]; omega⟩)
        have e1 : x ≠ B.mn := fun e => by rw [e, h.wmn] at hw0; cases hw0
        have e2 : x ≠ B.bl c.2 := fun e => by rw [e, hown] at hw0; omega
        rw [hfr x (by omega) e1]
        (repeat (first | rw [qE] | rw [qF _ _ _ _ (by omega)]))
  · rw [if_neg h9] at hof ⊢
    repeat (first | with_reducible (first | refine n_on ?_ | refine n_seq ?_ | refine s_else ?_ | refine n_t ?_ | refine n_gt ?_ | refine d_t ?_ | refine n_nil ?_ | refine d_nil ?_ | refine n_block ?_ | refine n_skip ?_ | refine n_bon ?_ | refine n_bback ?_ | refine n_back ?_ | refine n_out ?_ | refine n_bout rfl ?_ | refine n_bfar rfl ?_ | refine n_ret ?_ | refine n_exit ?_ | refine n_label ?_ | refine n_scope ?_ | refine n_son ?_ | refine n_sback ?_) | (with_reducible (first | apply n_region | apply d_region); (simp only [JV, JU, JW, Nat.reduceAdd, Nat.zero_add]; exact rfl)) | (with_reducible (first | apply s_op | apply n_guard | apply n_cond | apply d_guard | apply d_op | apply n_fin | apply n_finb); (simp (maxDischargeDepth := 6) only [sy3.1, zY, qG, qP, qQ, qR, qS, qT, rowAt, ↓jg, ↓ji, Nat.reduceAdd, Nat.reduceEqDiff, ne_eq, jG, Nat.reduceLT, if_true, ite_true, Int.reduceLE, Int.reduceLT, Int.reduceEq, Int.reduceNeg, Int.reduceAdd, Nat.reduceSub, if_false, ite_false, fs_15.1, heapRow, hr, hi, hright, hof, ptr0_eql, kind_pure, kind_load, kind_fresh, kind_other, jg, ji, undef]; first | exact rfl | exact ⟨rfl, rfl, rfl, rfl⟩); try (with_reducible refine calmK_in ?_; decide +kernel)))
    exact quiet_end (by simp only [all_relogL, js, ju, List.all_nil, jt, Bool.and_self]) (by rfl) (.same h _)
end
end Go.Proofs.Ythnlkahgmbadoaa

namespace Go.Proofs.Ythnlkahgmbadoaa
open Go.RowKit
set_option linter.unusedSimpArgs false
set_option linter.unusedVariables false
set_option maxRecDepth 100000

theorem HGood.store {hs : HS} (hG : HGood hs) (c v : VV) : HGood (storeO hs c v).1 := by
  have hk : ∀ (d : Int) (ob : Ob), (setOb hs.objs d ob).map (·.1) = hs.objs.map (·.1) := fun d ob => by
    unfold setOb
    rw [List.map_map]
    refine List.map_congr_left fun q _ => ?_
    simp only [Function.comp]
    split <;> rfl
  unfold storeO
  split
  · exact hG
  · rename_i ob _
    split
    · refine ⟨hG.pool, hG.bound, hG.max, by rw [hk]; exact hG.keys, fun q hq => ?_, ?_, hG.made0⟩
      · have : q.1 ∈ hs.objs.map (·.1) := by rw [← hk]; exact List.mem_map.2 ⟨q, hq, rfl⟩
        obtain ⟨q2, h2, e⟩ := List.mem_map.1 this
        rw [← e]; exact hG.ids q2 h2
      · simp only [setOb, List.length_map]; exact hG.cnt
    · exact hG
theorem look_set (l : List (Int × Ob)) (d : Int) (ob : Ob) (q : Int) : lookO (setOb l d ob) q = if q = d then (lookO l q).map (fun _ => ob) else lookO l q := by
  induction l with
  | nil => by_cases e : q = d <;> simp [lookO, setOb, e]
  | cons p l ih =>
    unfold lookO setOb at ih ⊢
    simp only [List.map_cons, List.find?_cons]
    by_cases h1 : p.1 = d
    · by_cases h2 : p.1 = q
      · have : q = d := h2.symm.trans h1
        simp [h1, h2, this]
      · have : ¬ d = q := fun e => h2 (h1.trans e)
        simp only [h1, if_true, decide_eq_false this, this]
        exact ih
    · by_cases h2 : p.1 = q
      · have : ¬ q = d := fun e => h1 (h2.trans e)
        simp [h1, h2, this]
      · simp only [h1, if_false, decide_eq_false h2]
        exact ih
/-- what a store leaves: the cell holds the value, all else is as it was -/
theorem find_store {hs : HS} (c v : VV) (q : VV) : findO (storeO hs c v).1 q = if (storeO hs c v).2 = 0 ∧ q.1 = 9 ∧ q.2 = c.2 then (findO hs q).map (fun ob => { ob with has := v }) else findO hs q := by
  unfold storeO
  cases ho : ofO hs c 9 with
  | none => simp
  | some ob =>
    obtain ⟨h1, h2, h3⟩ := ofO_look ho
    cases hk : keepO hs v with
    | false => simp
    | true =>
      simp only [if_true, true_and]
      unfold findO
      simp only
      rw [look_set]
      by_cases e : q.2 = c.2
      · simp only [e, if_true, h2, Option.map_some, and_true, h3, h1]
        by_cases e9 : q.1 = 9
        · have h9 : ob.kind = 9 := h3.trans h1
          simp only [e9, if_true]
          by_cases hh : holdsK 9 = true
          · simp [hh, h9]
          · simp [hh, h9]
        · have : ¬ (9 : Int) = q.1 := fun x => e9 x.symm
          simp only [e9, if_false, this]
      · simp only [e, if_false, and_false]
end Go.Proofs.Ythnlkahgmbadoaa
