/- Heap: add, as run. -/
import Derived.Test.YthnlkahgmbadoaaHmAdd2
namespace Go.Proofs.Ythnlkahgmbadoaa
open Go.RowKit
set_option linter.unusedSimpArgs false
set_option linter.unusedVariables false
set_option maxRecDepth 100000

theorem take_new {hs : HS} (hG : HGood hs) {size : Int} (h0 : 0 ≤ size) (hroom : ¬ hs.max < hs.pool.used + size) (hc : hs.pool.count < 65536) : (takeP hs.pool size).2.2 = 0 ∧ hasP hs.pool (takeP hs.pool size).2.1 = false ∧ 1 ≤ (takeP hs.pool size).2.1 := by
  have hP := hG.pool
  have hcnt := hP.cnt
  have hb := hG.bound
  unfold takeP
  rw [if_neg (by omega), if_neg (fun h => h.elim (fun h => by omega) (fun h => by omega))]
  by_cases h4 : hs.pool.free.length = 0
  · rw [if_pos h4]
    refine ⟨rfl, ?_, by simp only; omega⟩
    simp only
    unfold hasP
    rw [decide_eq_false (p := (hs.pool.sizes.length : Int) + 1 ≤ hs.pool.sizes.length) (by omega), Bool.and_false]; rfl
  · rw [if_neg h4]
    obtain ⟨k, h1, h2, h3, _⟩ := hP.top (by omega)
    refine ⟨rfl, ?_, by simp only [h1]; omega⟩
    simp only [h1]
    unfold hasP
    rw [show ((k : Int) + 1 - 1).toNat = k from by omega, decide_eq_false (p := 0 ≤ hs.pool.sizes.getD k 0) (by omega), Bool.and_false]
theorem new_key {hs : HS} (hG : HGood hs) {d : Int} (h : hasP hs.pool d = false) : lookO hs.objs d = none := by
  cases e : lookO hs.objs d with
  | none => rfl
  | some ob =>
    have := hG.ids _ (look_mem e)
    simp only at this
    rw [h] at this; cases this
section
variable {O : Helps} {n : Nat} {o : Tr AObj} {nx : Nat} {lg : List Nat} {w : Nat → Nat} {B : HB} {hs : HS}
/-- what add leaves: the object's blocks are marked by w1 -/
def AddTo (o : Tr AObj) (nx : Nat) (lg : List Nat) (w w1 : Nat → Nat) (B : HB) (hs : HS) (ob : Ob) (size : Int) (r : Value × AHeap) : Prop :=
  ∃ o' nx' lg' w' B', r = (.tuple #[vv (addO hs ob size).2.1, .int .i64 (addO hs ob size).2.2], ⟨o', nx', lg'⟩) ∧ nx ≤ nx' ∧ HeapIn o' nx' w' B' (addO hs ob size).1 ∧ B'.i = B.i ∧ (∀ x, x < nx → w1 x = 0 → o'.get x = o.get x ∧ w' x = 0) ∧ (∀ y, y ∈ lg → y ∈ lg') ∧ ((∃ x, x ∈ lg' ∧ w x ≠ 0) ∨ (o' = o ∧ nx' = nx ∧ lg' = lg ∧ w' = w ∧ B' = B ∧ (addO hs ob size).1 = hs))
set_option maxHeartbeats 16000000 in
theorem add_ok (hO : Clear O) (h : HeapIn o nx w B hs) (hG : HGood hs) {w1 : Nat → Nat} (hw1 : ∀ x, w x ≠ 0 → w1 x = w x) (hw1lt : ∀ x, w1 x ≠ 0 → x < nx) {bo : Nat} {ob : Ob} {size : Int} (h0 : 0 ≤ size) (hs2 : size < 1000000) (hc : hs.pool.count < 65536) (hmade : hs.made < 4611686018427387904) (hbo : w bo = 0)
    (hob : ¬ hs.max < hs.pool.used + size → ObIn o nx w1 (takeP hs.pool size).2.1 bo ob) (hn : hs.pool.sizes.length < n) :
    Got (oCall Try.prog [] O (n + 4) 24 [.pointer (some ⟨B.i, 0, none⟩), .pointer (some ⟨bo, 0, none⟩), .int .i64 size] ⟨o, nx, lg⟩) (AddTo o nx lg w w1 B hs ob size) := by
  obtain ⟨z, hr⟩ := h.row
  obtain ⟨es, c, hma, hmap⟩ := h.all
  have hi := h.lt
  have hP := hG.pool
  have hu0 := hP.used0
  have hle := hP.le
  have hbd := hG.bound
  have hmx := hG.max
  have hpi := h.pool.lt
  have hmalt := h.wlt B.ma (by rw [h.wma]; decide)
  have hU := fun (X : AObj) (q : Nat) (lg : List Nat) => pused_ok (n := n + 1) (o := o.put nx (some X)) (nx := nx + q) (lg := lg) hO (h.pool.more (by omega) fun x hx => qF _ _ _ _ (by omega))
  have w0 : IntKind.i64.wrap (hs.pool.used + size) = hs.pool.used + size := wrap_small _ (by omega) (by omega)
  rw [y_fn (rs := [.cell 6 30, .tmp 7]) (hO _ (by decide)) Try.func24 rfl (by kernel_rfl) rfl rfl]
  by_cases h1 : hs.max < hs.pool.used + size
  · have e : addO hs ob size = (hs, (0, 0), 152) := by unfold addO; rw [if_pos h1]
    repeat (first | with_reducible (first | refine n_on ?_ | refine n_seq ?_ | refine s_else ?_ | refine n_t ?_ | refine n_gt ?_ | refine d_t ?_ | refine n_nil ?_ | refine d_nil ?_ | refine n_block ?_ | refine n_skip ?_ | refine n_bon ?_ | refine n_bback ?_ | refine n_back ?_ | refine n_out ?_ | refine n_bout rfl ?_ | refine n_bfar rfl ?_ | refine n_ret ?_ | refine n_exit ?_ | refine n_label ?_ | refine n_scope ?_ | refine n_son ?_ | refine n_sback ?_) | (with_reducible (first | apply n_region | apply d_region); (simp only [JV, JU, JW, Nat.reduceAdd, Nat.zero_add]; exact rfl)) | (with_reducible (first | apply s_op | apply n_guard | apply n_cond | apply d_guard | apply d_op | apply n_fin | apply n_finb); (simp (maxDischargeDepth := 6) only [sy3.1, zY, qG, qP, qQ, qR, qS, qT, rowAt, ↓jg, ↓ji, Nat.reduceAdd, Nat.reduceEqDiff, ne_eq, jG, Nat.reduceLT, if_true, ite_true, Int.reduceLE, Int.reduceLT, Int.reduceEq, Int.reduceNeg, Int.reduceAdd, Nat.reduceSub, if_false, ite_false, fs_24.1, heapRow, hr, hi, hU, w0, decide_eq_true h1, kind_pure, kind_load, kind_fresh, kind_other, jg, ji, undef]; first | exact rfl | exact ⟨rfl, rfl, rfl, rfl⟩); try (with_reducible refine calmK_in ?_; decide +kernel)))
    refine quiet_end (by simp only [all_relogL, js, ju, List.all_nil, jt, Bool.and_self]) (by rfl) ?_
    unfold AddTo
    rw [e]
    exact ⟨_, _, _, w, B, rfl, Nat.le_refl _, h, rfl, fun x hx hw => ⟨rfl, by
      by_cases e2 : w x = 0
      · exact e2
      · rw [← hw1 x e2]; exact hw⟩, fun _ h => h, .inr ⟨rfl, rfl, rfl, rfl, rfl, rfl⟩⟩
  have d1 := decide_eq_false h1
  obtain ⟨ht0, ht1, ht2⟩ := take_new hG h0 h1 hc
  have hob := hob h1
  obtain ⟨d, hd⟩ : ∃ d, (takeP hs.pool size).2.1 = d := ⟨_, rfl⟩
  rw [hd] at hob ht1 ht2
  have hnew := new_key hG ht1
  obtain ⟨tp, sp, ca, cc, zz, hro, _⟩ := hob.ex
  have hbolt := hob.lt
  repeat (first | with_reducible (first | refine n_on ?_ | refine n_seq ?_ | refine s_else ?_ | refine n_t ?_ | refine n_gt ?_ | refine d_t ?_ | refine n_nil ?_ | refine d_nil ?_ | refine n_block ?_ | refine n_skip ?_ | refine n_bon ?_ | refine n_bback ?_ | refine n_back ?_ | refine n_out ?_ | refine n_bout rfl ?_ | refine n_bfar rfl ?_ | refine n_ret ?_ | refine n_exit ?_ | refine n_label ?_ | refine n_scope ?_ | refine n_son ?_ | refine n_sback ?_) | (with_reducible (first | apply n_region | apply d_region); (simp only [JV, JU, JW, Nat.reduceAdd, Nat.zero_add]; exact rfl)) | (with_reducible (first | apply s_op | apply n_guard | apply n_cond | apply d_guard | apply d_op | apply n_fin | apply n_finb); (simp (maxDischargeDepth := 6) only [sy3.1, zY, qG, qP, qQ, qR, qS, qT, rowAt, ↓jg, ↓ji, Nat.reduceAdd, Nat.reduceEqDiff, ne_eq, jG, Nat.reduceLT, if_true, ite_true, Int.reduceLE, Int.reduceLT, Int.reduceEq, Int.reduceNeg, Int.reduceAdd, Nat.reduceSub, if_false, ite_false, fs_24.1, heapRow, hr, hi, hU, w0, d1, kind_pure, kind_load, kind_fresh, kind_other, jg, ji, undef]; first | exact rfl | exact ⟨rfl, rfl, rfl, rfl⟩); try (with_reducible refine calmK_in ?_; decide +kernel)))
  refine s_do _ (by
    simp (maxDischargeDepth := 6) only [sy3.1, zY, qG, qP, qQ, qR, qS, qT, rowAt, ↓jg, ↓ji, Nat.reduceAdd, Nat.reduceEqDiff, ne_eq, jG, Nat.reduceLT, if_true, ite_true, Int.reduceLE, Int.reduceLT, Int.reduceEq, Int.reduceNeg, Int.reduceAdd, Nat.reduceSub, if_false, ite_false, fs_24.1, hr, hi]
    exact ptake_ok hO (h.pool.more (by omega) fun x hx => qF _ _ _ _ (by omega)) hP size hn) ?_
  rintro v1 H1 ⟨o1, nx1, lg1, a', b', heq, hn1, hP1, hfr1, ha', hb', hmo1, _⟩
  cases heq
  rw [hd, ht0]
  have hPm : ∀ x, x < nx → w x ≠ 2 → w x ≠ 3 → w x ≠ 4 → o1.get x = o.get x := fun x hx h2 h3 h4 => by
    rw [hfr1 x (by omega) (fun hm => by
      rcases hm with rfl | e | e
      · exact h2 h.wp
      · exact h3 (h.wa x e)
      · exact h4 (h.wb x e))]
    exact qF _ _ _ _ (by omega)
  have hr1 := (hPm B.i hi (by rw [h.wi]; decide) (by rw [h.wi]; decide) (by rw [h.wi]; decide)).trans hr
  have hma1 := (hPm B.ma hmalt (by rw [h.wma]; decide) (by rw [h.wma]; decide) (by rw [h.wma]; decide)).trans hma
  have hro1 := (hPm bo hbolt (by rw [hbo]; decide) (by rw [hbo]; decide) (by rw [hbo]; decide)).trans hro
  have hnxP : o1.get nx = some (.row [.int .u8 0, .int .i64 0] 30 0 true) := by
    rw [hfr1 nx (by omega) (fun hm => by
      have := h.pool.mine_lt hm
      omega)]
    exact qE _ _ _
  obtain ⟨es', c', hput, hmap'⟩ := map_put key_int Try.underlying60 hmap B.ma c d (.pointer (some ⟨bo, 0, none⟩))
  have hib : B.i ≠ bo := fun e => by have := h.wi; rw [e, hbo] at this; cases this
  have hbi := Ne.symm hib
  have hmab : B.ma ≠ bo := fun e => by have := h.wma; rw [e, hbo] at this; cases this
  have hbma := Ne.symm hmab
  have hima : B.i ≠ B.ma := fun e => by have := h.wi; rw [e, h.wma] at this; cases this
  have hmai := Ne.symm hima
  have hnb : nx ≠ bo := by omega
  have hni : nx ≠ B.i := by omega
  have hnma : nx ≠ B.ma := by omega
  have w1' : IntKind.i64.wrap (hs.made + 1) = hs.made + 1 := wrap_small _ (by have := hG.made0; omega) (by omega)
  have hObx : ∀ x, x < nx → isOb w1 d x → x ≠ B.i ∧ x ≠ B.ma ∧ o1.get x = o.get x := fun x hx hb => by
    have hb1 := hb.1
    have hwx : w x = 0 ∨ w x = w1 x := by
      by_cases e : w x = 0
      · exact .inl e
      · exact .inr (hw1 x e).symm
    refine ⟨fun e => ?_, fun e => ?_, hPm x hx (by omega) (by omega) (by omega)⟩
    · rw [e, h.wi] at hwx; rw [e] at hb1; omega
    · rw [e, h.wma] at hwx; rw [e] at hb1; omega
  have hmn : B.mn ≠ bo := fun e => by have := h.wmn; rw [e, hbo] at this; cases this
  have hmni : B.mn ≠ B.i := fun e => by have := h.wmn; rw [e, h.wi] at this; cases this
  have hmnlt := h.wlt B.mn (by rw [h.wmn]; decide)
  have hmnx : B.mn ≠ nx := by omega
  have hmark : markA nx w1 a' b' nx = 0 := by
    unfold markA
    rw [if_pos (Nat.le_refl _), if_neg, if_neg]
    · intro e
      rcases hb' with e2 | ⟨k, e2, hk⟩
      · have := h.pool.fr.lt (e2.symm.trans e); omega
      · rw [e] at e2; cases e2; omega
    · intro e
      rcases ha' with e2 | ⟨k, e2, hk⟩
      · have := h.pool.sz.lt (e2.symm.trans e); omega
      · rw [e] at e2; cases e2; omega
  cases hsr : serialK ob.kind with
  | true =>
    have hk : ob.kind = 5 ∨ (ob.kind ≠ 5 ∧ ob.kind = 6) ∨ (ob.kind ≠ 5 ∧ ob.kind ≠ 6 ∧ ob.kind = 8) := by
      unfold serialK at hsr
      simp only [Bool.or_eq_true, decide_eq_true_eq] at hsr
      omega
    obtain ⟨b5, b6, b8, d5, d6, d8, hb⟩ : ∃ b5 b6 b8, decide (ob.kind = 5) = b5 ∧ decide (ob.kind = 6) = b6 ∧ decide (ob.kind = 8) = b8 ∧ (b5 = true ∨ (b5 = false ∧ b6 = true) ∨ (b5 = false ∧ b6 = false ∧ b8 = true)) := ⟨_, _, _, rfl, rfl, rfl, by simpa using hk⟩
    rcases hb with rfl | ⟨rfl, rfl⟩ | ⟨rfl, rfl, rfl⟩
    all_goals
      repeat (first | with_reducible (first | refine n_on ?_ | refine n_seq ?_ | refine s_else ?_ | refine n_t ?_ | refine n_gt ?_ | refine d_t ?_ | refine n_nil ?_ | refine d_nil ?_ | refine n_block ?_ | refine n_skip ?_ | refine n_bon ?_ | refine n_bback ?_ | refine n_back ?_ | refine n_out ?_ | refine n_bout rfl ?_ | refine n_bfar rfl ?_ | refine n_ret ?_ | refine n_exit ?_ | refine n_label ?_ | refine n_scope ?_ | refine n_son ?_ | refine n_sback ?_) | (with_reducible (first | apply n_region | apply d_region); (simp only [JV, JU, JW, Nat.reduceAdd, Nat.zero_add]; exact rfl)) | (with_reducible (first | apply s_op | apply n_guard | apply n_cond | apply d_guard | apply d_op | apply n_fin | apply n_finb); (simp (maxDischargeDepth := 6) only [sy3.1, zY, qG, qP, qQ, qR, qS, qT, rowAt, ↓jg, ↓ji, Nat.reduceAdd, Nat.reduceEqDiff, ne_eq, jG, Nat.reduceLT, if_true, ite_true, Int.reduceLE, Int.reduceLT, Int.reduceEq, Int.reduceNeg, Int.reduceAdd, Nat.reduceSub, if_false, ite_false, fs_24.1, heapRow, obRow, hr1, hro1, hma1, hput, hib, hbi, hmab, hbma, hima, hmai, hnb, hni, hnma, w1', d5, d6, d8, hnxP, kind_pure, kind_load, kind_fresh, kind_other, jg, ji, undef]; first | exact rfl | exact ⟨rfl, rfl, rfl, rfl⟩); try (with_reducible refine calmK_in ?_; decide +kernel)))
      refine s_do _ (by
        simp (maxDischargeDepth := 6) only [sy3.1, zY, qG, qP, qQ, qR, qS, qT, rowAt, ↓jg, ↓ji, Nat.reduceAdd, Nat.reduceEqDiff, ne_eq, jG, Nat.reduceLT, if_true, ite_true, Int.reduceLE, Int.reduceLT, Int.reduceEq, Int.reduceNeg, Int.reduceAdd, Nat.reduceSub, if_false, ite_false, fs_24.1]
        refine note_ok hO (heap_added (z := z) (m := (hs.made + 1)) (d := d) (bo := bo) (ob' := { ob with serial := (hs.made + 1) }) h hw1 hw1lt (by omega) hP1 (fun x hx hm => (hfr1 x (by omega) hm).trans (qF _ _ _ _ (by omega))) (ha'.imp id fun ⟨k, e, hk⟩ => ⟨k, e, by omega⟩) (hb'.imp id fun ⟨k, e, hk⟩ => ⟨k, e, by omega⟩) (nx3 := _) (by omega) hnew hbo
          (by (repeat (first | rw [qE] | rw [qF _ _ _ _ (by omega)]))) (hob.serialed hro (by omega) (by (repeat (first | rw [qE] | rw [qF _ _ _ _ (by omega)]))) (fun x hx hob2 hxb => ?_) (fun x hx _ => markA_old hx)) (qE _ _ _) hmap' (fun x hx hxi hxm hxb => by (repeat (first | rw [qE] | rw [qF _ _ _ _ (by omega)])))) d
        obtain ⟨e1, e2, e3⟩ := hObx x hx hob2
        (repeat (first | rw [qE] | rw [qF _ _ _ _ (by omega)]))
        exact e3) ?_
      rintro v2 H2 ⟨o2, nx2, lg2, heq, hn2, hH2, hfr2, hmo2⟩
      cases heq
      have hro2 : o2.get bo = some (.row (obRow { ob with serial := hs.made + 1 } tp sp ca cc) 72 zz true) := by
        rw [hfr2 bo (by omega) (Ne.symm hmn)]; (repeat (first | rw [qE] | rw [qF _ _ _ _ (by omega)]))
      have hnx2 : o2.get nx = some (.row [.int .u8 0, .int .i64 0] 30 0 true) := by
        rw [hfr2 nx (by omega) (Ne.symm hmnx)]; (repeat (first | rw [qE] | rw [qF _ _ _ _ (by omega)])); exact hnxP
      repeat (first | with_reducible (first | refine n_on ?_ | refine n_seq ?_ | refine s_else ?_ | refine n_t ?_ | refine n_gt ?_ | refine d_t ?_ | refine n_nil ?_ | refine d_nil ?_ | refine n_block ?_ | refine n_skip ?_ | refine n_bon ?_ | refine n_bback ?_ | refine n_back ?_ | refine n_out ?_ | refine n_bout rfl ?_ | refine n_bfar rfl ?_ | refine n_ret ?_ | refine n_exit ?_ | refine n_label ?_ | refine n_scope ?_ | refine n_son ?_ | refine n_sback ?_) | (with_reducible (first | apply n_region | apply d_region); (simp only [JV, JU, JW, Nat.reduceAdd, Nat.zero_add]; exact rfl)) | (with_reducible (first | apply s_op | apply n_guard | apply n_cond | apply d_guard | apply d_op | apply n_fin | apply n_finb); (simp (maxDischargeDepth := 6) only [sy3.1, zY, qG, qP, qQ, qR, qS, qT, rowAt, ↓jg, ↓ji, Nat.reduceAdd, Nat.reduceEqDiff, ne_eq, jG, Nat.reduceLT, if_true, ite_true, Int.reduceLE, Int.reduceLT, Int.reduceEq, Int.reduceNeg, Int.reduceAdd, Nat.reduceSub, if_false, ite_false, fs_24.1, obRow, hro2, hnx2, kind_pure, kind_load, kind_fresh, kind_other, jg, ji, undef]; first | exact rfl | exact ⟨rfl, rfl, rfl, rfl⟩); try (with_reducible refine calmK_in ?_; decide +kernel)))
      refine loud_end (x := B.ma) (by simp only [in_note, hmo2 B.ma (by simp only [in_note, true_or, or_true]), or_true]) hmalt fun l' hmo hin => ?_
      have hA : addO hs ob size = ({ hs with made := hs.made + 1, pool := (takeP hs.pool size).1, objs := hs.objs ++ [(d, { ob with serial := hs.made + 1 })], noted := noteL hs d }, (ob.kind, d), 0) := by
        unfold addO; rw [if_neg h1, hd, hsr]; rfl
      unfold AddTo
      rw [hA]
      refine ⟨_, _, _, _, _, rfl, by omega, hH2.keep (nx' := _) (w' := markA nx w1 a' b') (by omega) (fun x hx => by have := hH2.wlt x hx; omega) fun x hx => ⟨?_, rfl⟩, rfl, fun x hx hwx => ⟨?_, ?_⟩, hmo, .inl ⟨B.ma, hin _ (by simp only [in_note, hmo2 B.ma (by simp only [in_note, true_or, or_true]), or_true]) hmalt, by rw [h.wma]; decide⟩⟩
      · have : x ≠ nx := fun e => hx (by rw [e]; exact hmark)
        (repeat (first | rw [qE] | rw [qF _ _ _ _ (by omega)]))
      · have e1 : x ≠ B.i := fun e => by rw [e, hw1 _ (by rw [h.wi]; decide), h.wi] at hwx; cases hwx
        have e2 : x ≠ B.ma := fun e => by rw [e, hw1 _ (by rw [h.wma]; decide), h.wma] at hwx; cases hwx
        have e3 : x ≠ B.mn := fun e => by rw [e, hw1 _ (by rw [h.wmn]; decide), h.wmn] at hwx; cases hwx
        have e4 : x ≠ bo := fun e => by have := hob.own; rw [← e, hwx] at this; omega
        have e5 : w x = 0 := by
          by_cases e : w x = 0
          · exact e
          · rw [← hw1 x e]; exact hwx
        (repeat (first | rw [qE] | rw [qF _ _ _ _ (by omega)]))
        rw [hfr2 x (by omega) e3]
        (repeat (first | rw [qE] | rw [qF _ _ _ _ (by omega)]))
        exact hPm x hx (by omega) (by omega) (by omega)
      · rw [markA_old hx]; exact hwx
  | false =>
    have d5 : decide (ob.kind = 5) = false := by unfold serialK at hsr; simp only [Bool.or_eq_false_iff] at hsr; exact hsr.1
    have d6 : decide (ob.kind = 6) = false := by unfold serialK at hsr; simp only [Bool.or_eq_false_iff] at hsr; exact hsr.2.1
    have d8 : decide (ob.kind = 8) = false := by unfold serialK at hsr; simp only [Bool.or_eq_false_iff] at hsr; exact hsr.2.2
    all_goals
      repeat (first | with_reducible (first | refine n_on ?_ | refine n_seq ?_ | refine s_else ?_ | refine n_t ?_ | refine n_gt ?_ | refine d_t ?_ | refine n_nil ?_ | refine d_nil ?_ | refine n_block ?_ | refine n_skip ?_ | refine n_bon ?_ | refine n_bback ?_ | refine n_back ?_ | refine n_out ?_ | refine n_bout rfl ?_ | refine n_bfar rfl ?_ | refine n_ret ?_ | refine n_exit ?_ | refine n_label ?_ | refine n_scope ?_ | refine n_son ?_ | refine n_sback ?_) | (with_reducible (first | apply n_region | apply d_region); (simp only [JV, JU, JW, Nat.reduceAdd, Nat.zero_add]; exact rfl)) | (with_reducible (first | apply s_op | apply n_guard | apply n_cond | apply d_guard | apply d_op | apply n_fin | apply n_finb); (simp (maxDischargeDepth := 6) only [sy3.1, zY, qG, qP, qQ, qR, qS, qT, rowAt, ↓jg, ↓ji, Nat.reduceAdd, Nat.reduceEqDiff, ne_eq, jG, Nat.reduceLT, if_true, ite_true, Int.reduceLE, Int.reduceLT, Int.reduceEq, Int.reduceNeg, Int.reduceAdd, Nat.reduceSub, if_false, ite_false, fs_24.1, heapRow, obRow, hr1, hro1, hma1, hput, hib, hbi, hmab, hbma, hima, hmai, hnb, hni, hnma, w1', d5, d6, d8, hnxP, kind_pure, kind_load, kind_fresh, kind_other, jg, ji, undef]; first | exact rfl | exact ⟨rfl, rfl, rfl, rfl⟩); try (with_reducible refine calmK_in ?_; decide +kernel)))
      refine s_do _ (by
        simp (maxDischargeDepth := 6) only [sy3.1, zY, qG, qP, qQ, qR, qS, qT, rowAt, ↓jg, ↓ji, Nat.reduceAdd, Nat.reduceEqDiff, ne_eq, jG, Nat.reduceLT, if_true, ite_true, Int.reduceLE, Int.reduceLT, Int.reduceEq, Int.reduceNeg, Int.reduceAdd, Nat.reduceSub, if_false, ite_false, fs_24.1]
        refine note_ok hO (heap_added (z := z) (m := hs.made) (d := d) (bo := bo) (ob' := { ob with serial := ob.serial }) h hw1 hw1lt (by omega) hP1 (fun x hx hm => (hfr1 x (by omega) hm).trans (qF _ _ _ _ (by omega))) (ha'.imp id fun ⟨k, e, hk⟩ => ⟨k, e, by omega⟩) (hb'.imp id fun ⟨k, e, hk⟩ => ⟨k, e, by omega⟩) (nx3 := _) (by omega) hnew hbo
          (by rw [qF _ _ _ _ hima]; exact hr1) (hob.serialed hro (by omega) (by (repeat (first | rw [qE] | rw [qF _ _ _ _ (by omega)])); exact hro1) (fun x hx hob2 hxb => ?_) (fun x hx _ => markA_old hx)) (qE _ _ _) hmap' (fun x hx hxi hxm hxb => by (repeat (first | rw [qE] | rw [qF _ _ _ _ (by omega)])))) d
        obtain ⟨e1, e2, e3⟩ := hObx x hx hob2
        (repeat (first | rw [qE] | rw [qF _ _ _ _ (by omega)]))
        exact e3) ?_
      rintro v2 H2 ⟨o2, nx2, lg2, heq, hn2, hH2, hfr2, hmo2⟩
      cases heq
      have hro2 : o2.get bo = some (.row (obRow { ob with serial := ob.serial } tp sp ca cc) 72 zz true) := by
        rw [hfr2 bo (by omega) (Ne.symm hmn)]; (repeat (first | rw [qE] | rw [qF _ _ _ _ (by omega)])); exact hro1
      have hnx2 : o2.get nx = some (.row [.int .u8 0, .int .i64 0] 30 0 true) := by
        rw [hfr2 nx (by omega) (Ne.symm hmnx)]; (repeat (first | rw [qE] | rw [qF _ _ _ _ (by omega)])); exact hnxP
      repeat (first | with_reducible (first | refine n_on ?_ | refine n_seq ?_ | refine s_else ?_ | refine n_t ?_ | refine n_gt ?_ | refine d_t ?_ | refine n_nil ?_ | refine d_nil ?_ | refine n_block ?_ | refine n_skip ?_ | refine n_bon ?_ | refine n_bback ?_ | refine n_back ?_ | refine n_out ?_ | refine n_bout rfl ?_ | refine n_bfar rfl ?_ | refine n_ret ?_ | refine n_exit ?_ | refine n_label ?_ | refine n_scope ?_ | refine n_son ?_ | refine n_sback ?_) | (with_reducible (first | apply n_region | apply d_region); (simp only [JV, JU, JW, Nat.reduceAdd, Nat.zero_add]; exact rfl)) | (with_reducible (first | apply s_op | apply n_guard | apply n_cond | apply d_guard | apply d_op | apply n_fin | apply n_finb); (simp (maxDischargeDepth := 6) only [sy3.1, zY, qG, qP, qQ, qR, qS, qT, rowAt, ↓jg, ↓ji, Nat.reduceAdd, Nat.reduceEqDiff, ne_eq, jG, Nat.reduceLT, if_true, ite_true, Int.reduceLE, Int.reduceLT, Int.reduceEq, Int.reduceNeg, Int.reduceAdd, Nat.reduceSub, if_false, ite_false, fs_24.1, obRow, hro2, hnx2, kind_pure, kind_load, kind_fresh, kind_other, jg, ji, undef]; first | exact rfl | exact ⟨rfl, rfl, rfl, rfl⟩); try (with_reducible refine calmK_in ?_; decide +kernel)))
      refine loud_end (x := B.ma) (by simp only [in_note, hmo2 B.ma (by simp only [in_note, true_or, or_true]), or_true]) hmalt fun l' hmo hin => ?_
      have hA : addO hs ob size = ({ hs with made := hs.made, pool := (takeP hs.pool size).1, objs := hs.objs ++ [(d, { ob with serial := ob.serial })], noted := noteL hs d }, (ob.kind, d), 0) := by
        unfold addO; rw [if_neg h1, hd, hsr]; rfl
      unfold AddTo
      rw [hA]
      refine ⟨_, _, _, _, _, rfl, by omega, hH2.keep (nx' := _) (w' := markA nx w1 a' b') (by omega) (fun x hx => by have := hH2.wlt x hx; omega) fun x hx => ⟨?_, rfl⟩, rfl, fun x hx hwx => ⟨?_, ?_⟩, hmo, .inl ⟨B.ma, hin _ (by simp only [in_note, hmo2 B.ma (by simp only [in_note, true_or, or_true]), or_true]) hmalt, by rw [h.wma]; decide⟩⟩
      · have : x ≠ nx := fun e => hx (by rw [e]; exact hmark)
        (repeat (first | rw [qE] | rw [qF _ _ _ _ (by omega)]))
      · have e1 : x ≠ B.i := fun e => by rw [e, hw1 _ (by rw [h.wi]; decide), h.wi] at hwx; cases hwx
        have e2 : x ≠ B.ma := fun e => by rw [e, hw1 _ (by rw [h.wma]; decide), h.wma] at hwx; cases hwx
        have e3 : x ≠ B.mn := fun e => by rw [e, hw1 _ (by rw [h.wmn]; decide), h.wmn] at hwx; cases hwx
        have e4 : x ≠ bo := fun e => by have := hob.own; rw [← e, hwx] at this; omega
        have e5 : w x = 0 := by
          by_cases e : w x = 0
          · exact e
          · rw [← hw1 x e]; exact hwx
        (repeat (first | rw [qE] | rw [qF _ _ _ _ (by omega)]))
        rw [hfr2 x (by omega) e3]
        (repeat (first | rw [qE] | rw [qF _ _ _ _ (by omega)]))
        exact hPm x hx (by omega) (by omega) (by omega)
      · rw [markA_old hx]; exact hwx
end
end Go.Proofs.Ythnlkahgmbadoaa
