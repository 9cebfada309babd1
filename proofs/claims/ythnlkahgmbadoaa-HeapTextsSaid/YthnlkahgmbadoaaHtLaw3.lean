/- HeapTexts: the range over the texts that were seen, and the law. -/
import Derived.Test.YthnlkahgmbadoaaHtLaw2
import Derived.Test.YthnlkahgmbadoaaNdFn
import Derived.Test.YthnlkahgmbadoaaAmGuestV
namespace Go.Proofs.Ythnlkahgmbadoaa
open Go.RowKit
set_option linter.unusedSimpArgs false
set_option linter.unusedVariables false
set_option maxRecDepth 100000

theorem key_i64 : KeyBy Try.prog 2 (Value.int .i64) where
  chk b x := by kernel_rfl
  flat x := rfl
  bits x := by simp [Instr.sameBits]
  desc := ⟨_, Try.underlying2, .inl fun x y => by simp only [Instr.sameNow]; by_cases e : x = y <;> simp [e]⟩
theorem lenV_mapS {P : Program} {t kt el : TypeId} {ty c : _} (hu : P.underlying t = some (.map kt el)) {H : AHeap} {i ck : Nat} {es : List MapEntry} (hg : H.get i = some (.map es ck)) : lenV P t ty c (.map (some i)) H = some (.int .i64 (.ofNat es.length)) := by
  simp only [lenV, aLen, hu, entriesOf, hg, Option.map_some]; rfl
theorem holds_step {P : Program} {nt : Nat} {call : CallFn} {fuel : Nat} {x y : Code} {env : Tr Value} {H : AHeap} {Q : St → Prop} (hc : CallSound P [] call) (hm : P.follows .mixedOrders = true) (hk : chk [] nt x = true) (h : Got (rCode P call fuel x env H) (onTo Q fun e h => Holds P nt y e h Q)) : Holds P nt (.seq x y) env H Q :=
  holds_seq (holds_got hc hm hk h) fun e h hh => hh
/-- an entry of the map that was seen, by its number -/
theorem seen_inj {es : List MapEntry} {l : List (ByteArray × Int)} (hi : MapIs Value.string es (seenKV l)) (hn : (l.map (·.2)).Nodup) : (∀ x ∈ es, ∃ q ∈ l, x.key = .string q.1 ∧ x.val = .agg #[.int .u8 4, .int .i64 q.2]) ∧ ∀ x ∈ es, ∀ y ∈ es, x.val = y.val → x = y := by
  have hv : es.map (fun e => (e.key, e.val)) = l.map fun q => ((.string q.1 : Value), (.agg #[.int .u8 4, .int .i64 q.2] : Value)) := by
    have := hi
    unfold MapIs seenKV at this
    simpa [List.map_map, Function.comp_def] using this
  refine ⟨fun x hx => ?_, ?_⟩
  · have : (x.key, x.val) ∈ es.map (fun e => (e.key, e.val)) := List.mem_map.2 ⟨x, hx, rfl⟩
    rw [hv] at this
    obtain ⟨q, hq, e⟩ := List.mem_map.1 this
    simp only [Prod.mk.injEq] at e
    exact ⟨q, hq, e.1.symm, e.2.symm⟩
  · have hvn : (es.map (·.val)).Nodup := by
      have e1 : es.map (·.val) = (l.map (·.2)).map fun d => (.agg #[.int .u8 4, .int .i64 d] : Value) := by
        have := congrArg (List.map Prod.snd) hv
        simpa [List.map_map, Function.comp_def] using this
      rw [e1]
      exact List.Pairwise.map _ (fun a b (h : a ≠ b) e => h (by simpa using e)) hn
    clear hv hi
    induction es with
    | nil => intro x hx; cases hx
    | cons e es ih =>
      simp only [List.map_cons, List.nodup_cons] at hvn
      intro x hx y hy hxy
      rcases List.mem_cons.1 hx with e1 | hx
      · rcases List.mem_cons.1 hy with e2 | hy
        · rw [e1, e2]
        · exact absurd (List.mem_map.2 ⟨y, hy, by rw [← e1]; exact hxy.symm⟩) hvn.1
      · rcases List.mem_cons.1 hy with e2 | hy
        · exact absurd (List.mem_map.2 ⟨x, hx, by rw [← e2]; exact hxy⟩) hvn.1
        · exact ih hvn.2 x hx y hy hxy
/-- the numbers that were met -/
structure NumIn (z : List ByteArray) (ms bi mn ti it : Nat) (w : Nat → Nat) (B : HB) (hs : HS) (es : List MapEntry) (c : Nat) (seen : List Nat) (e : Tr Value) (o : Tr AObj) (nx : Nat) : Prop where
  M : HtIn z ms bi o nx w B hs es c
  ltn : mn < nx
  wn : w mn = 0
  ne : mn ≠ ms
  n0 : 0 < mn
  num : ∃ (en : List MapEntry) (cn : Nat) (l : List Int), o.get mn = some (.map en cn) ∧ MapIs (Value.int .i64) en (l.map fun d => (d, .bool true)) ∧ ∀ (y : MapEntry) (d : Int), y ∈ es → y.val = .agg #[.int .u8 4, .int .i64 d] → d ∈ l → y.born ∈ seen
  g3 : e.get 3 = some (.pointer (some ⟨bi, 0, none⟩))
  g5 : e.get 5 = some (.map (some ms))
  g14 : e.get 14 = some (.map (some mn))
  gi : e.get ti = some (.pointer (some ⟨it, 0, none⟩))
theorem tells_end {P : Program} {rs : List ResultVar} {e : Tr Value} {H : AHeap} (h : aResults P e H rs = some [.bool true]) : tellsTrue P rs (.back, e, H) := ⟨.inr rfl, h⟩
set_option maxHeartbeats 16000000 in
theorem ht_tail {z : List ByteArray} {ms bi mn ti it : Nat} {w : Nat → Nat} {B : HB} {hs : HS} {es : List MapEntry} {c : Nat} {seen : List Nat} {e : Tr Value} {o : Tr AObj} {nx : Nat} {lg : List Nat} (N : NumIn z ms bi mn ti it w B hs es c seen e o nx) (hl : hs.texts.length ≤ 80) :
    Got (rCode Try.prog (oCall Try.prog [] O14 999) 999 (sqR (sqR (sqR (htW Try.f3)))) e ⟨o, nx, lg⟩) (tellsTrue Try.prog (Try.f3).results.toList) := by
  have g3 := N.g3; have g5 := N.g5
  have hol : hs.objs.length = hs.texts.length := by rw [N.M.T.objs, List.length_map]
  have hob := fun (nx' : Nat) (hn : nx ≤ nx') (lg : List Nat) => objs_ok (n := 998) (lg := lg) (N.M.heap.more hn fun _ _ => rfl) N.M.T.good (by have := N.M.T.sizes; omega) (by omega)
  simp only [N.M.hB] at hob
  have hob := fun (q : Nat) (lg : List Nat) => hob (nx + q) (by omega) lg
  have hel : es.length = hs.texts.length := by have := N.M.kv.len; simp only [List.length_map] at this; omega
  have hsn := N.M.seen
  have aw := fun n (o : Tr AObj) nx lg => awake14_ok (n := n) (o := o) (nx := nx) (lg := lg)
  have hlm : ∀ (H : AHeap) ty c', H.get ms = some (.map es c) → _ := fun H ty c' hg => lenV_mapS (ty := ty) (c := c') Try.underlying27 hg
  have hmlt := N.M.ltm
  have hlo := objsO_len hs
  have hd : decide (hs.texts.length = hs.texts.length) = true := decide_eq_true rfl
  have hii : decide (Int.ofNat hs.texts.length = Int.ofNat hs.texts.length) = true := decide_eq_true rfl
  rw [hel] at hlm
  cases ho : objsO hs with
  | nil =>
    rw [ho] at hob hlo
    have h0 : hs.texts.length = 0 := by rw [← hol, ← hlo]; rfl
    rw [h0] at hlm
    refine n_seq ?_
    repeat (first | with_reducible (first | refine n_on ?_ | refine n_seq ?_ | refine s_else ?_ | refine n_t ?_ | refine n_gt ?_ | refine d_t ?_ | refine n_nil ?_ | refine d_nil ?_ | refine n_block ?_ | refine n_skip ?_ | refine n_bon ?_ | refine n_bback ?_ | refine n_back ?_ | refine n_out ?_ | refine n_bout rfl ?_ | refine n_bfar rfl ?_ | refine n_ret ?_ | refine n_exit ?_ | refine n_label ?_ | refine n_scope ?_ | refine n_son ?_ | refine n_sback ?_) | (with_reducible (first | apply n_region | apply d_region); (simp only [JV, JU, JW, Nat.reduceAdd, Nat.zero_add]; exact rfl)) | (with_reducible (first | apply s_op | apply n_guard | apply n_cond | apply d_guard | apply d_op | apply n_fin | apply n_finb); (simp (maxDischargeDepth := 6) only [sy3.1, zY, qG, qP, qQ, qR, qS, qT, rowAt, ↓jg, ↓ji, Nat.reduceAdd, Nat.reduceEqDiff, ne_eq, jG, Nat.reduceLT, if_true, ite_true, Int.reduceLE, Int.reduceLT, Int.reduceEq, Int.reduceNeg, Int.reduceAdd, Nat.reduceSub, if_false, ite_false, fs_3.1, g3, g5, hob, resV, resH, hsn, aw, hlm, hmlt, kind_pure, kind_load, kind_fresh, kind_other, jg, ji, undef]; first | exact rfl | exact ⟨rfl, rfl, rfl, rfl⟩); try (with_reducible refine calmK_in ?_; decide +kernel)))
    exact tells_end (by simp only [show (Try.f3).results.toList = [.tmp 2] from rfl, aResults, qC, qD, qE, qF, Tr.get_nil, ne_eq, not_false_eq_true, Nat.reduceEqDiff]; rfl)
  | cons p l =>
    rw [ho] at hob hlo
    have h0 : l.length + 1 = hs.texts.length := by rw [← hol, ← hlo]; rfl
    rw [← h0] at hlm
    refine n_seq ?_
    repeat (first | with_reducible (first | refine n_on ?_ | refine n_seq ?_ | refine s_else ?_ | refine n_t ?_ | refine n_gt ?_ | refine d_t ?_ | refine n_nil ?_ | refine d_nil ?_ | refine n_block ?_ | refine n_skip ?_ | refine n_bon ?_ | refine n_bback ?_ | refine n_back ?_ | refine n_out ?_ | refine n_bout rfl ?_ | refine n_bfar rfl ?_ | refine n_ret ?_ | refine n_exit ?_ | refine n_label ?_ | refine n_scope ?_ | refine n_son ?_ | refine n_sback ?_) | (with_reducible (first | apply n_region | apply d_region); (simp only [JV, JU, JW, Nat.reduceAdd, Nat.zero_add]; exact rfl)) | (with_reducible (first | apply s_op | apply n_guard | apply n_cond | apply d_guard | apply d_op | apply n_fin | apply n_finb); (simp (maxDischargeDepth := 6) only [sy3.1, zY, qG, qP, qQ, qR, qS, qT, rowAt, ↓jg, ↓ji, Nat.reduceAdd, Nat.reduceEqDiff, ne_eq, jG, Nat.reduceLT, if_true, ite_true, Int.reduceLE, Int.reduceLT, Int.reduceEq, Int.reduceNeg, Int.reduceAdd, Nat.reduceSub, if_false, ite_false, fs_3.1, g3, g5, hob, resV, resH, AHeap.add, hsn, aw, hlm, hmlt, kind_pure, kind_load, kind_fresh, kind_other, jg, ji, undef]; first | exact rfl | exact ⟨rfl, rfl, rfl, rfl⟩); try (with_reducible refine calmK_in ?_; decide +kernel)))
    exact tells_end (by simp only [show (Try.f3).results.toList = [.tmp 2] from rfl, aResults, qC, qD, qE, qF, Tr.get_nil, ne_eq, not_false_eq_true, Nat.reduceEqDiff]; rfl)
theorem hc14 : CallSound Try.prog [] (oCall Try.prog [] O14 999) := oCall_sound O14_sound mixed_ 999
set_option maxHeartbeats 16000000 in
theorem ht_law (z : List ByteArray) (oa : Option Addr) (hoa : 0 < z.length → oa = some ⟨0, 0, none⟩) (og : Tr AObj) (hg : og.get 0 = some (.row (z.map Value.string) 0 1 false)) :
    Holds Try.prog (Try.f3).ntmps (bodyOf Try.f3) (qG [.slice oa z.length 0] 0 .nil) ⟨og, 1, []⟩ (tellsTrue Try.prog (Try.f3).results.toList) := by
  refine holds_step hc14 mixed_ (by kernel_rfl) (fuel := 999) ?_
  repeat (first | with_reducible (first | refine n_on ?_ | refine n_seq ?_ | refine s_else ?_ | refine n_t ?_ | refine n_gt ?_ | refine d_t ?_ | refine n_nil ?_ | refine d_nil ?_ | refine n_block ?_ | refine n_skip ?_ | refine n_bon ?_ | refine n_bback ?_ | refine n_back ?_ | refine n_out ?_ | refine n_bout rfl ?_ | refine n_bfar rfl ?_ | refine n_ret ?_ | refine n_exit ?_ | refine n_label ?_ | refine n_scope ?_ | refine n_son ?_ | refine n_sback ?_) | (with_reducible (first | apply n_region | apply d_region); (simp only [JV, JU, JW, Nat.reduceAdd, Nat.zero_add]; exact rfl)) | (with_reducible (first | apply s_op | apply n_guard | apply n_cond | apply d_guard | apply d_op | apply n_fin | apply n_finb); (simp (maxDischargeDepth := 6) only [sy3.1, zY, qG, qP, qQ, qR, qS, qT, rowAt, ↓jg, ↓ji, Nat.reduceAdd, Nat.reduceEqDiff, ne_eq, jG, Nat.reduceLT, if_true, ite_true, Int.reduceLE, Int.reduceLT, Int.reduceEq, Int.reduceNeg, Int.reduceAdd, Nat.reduceSub, if_false, ite_false, fs_3.1, vv, kind_pure, kind_load, kind_fresh, kind_other, jg, ji, undef]; first | exact rfl | exact ⟨rfl, rfl, rfl, rfl⟩); try (with_reducible refine calmK_in ?_; decide +kernel)))
  refine holds_step hc14 mixed_ (by kernel_rfl) (fuel := 999) ?_
  repeat (first | with_reducible (first | refine n_on ?_ | refine n_seq ?_ | refine s_else ?_ | refine n_t ?_ | refine n_gt ?_ | refine d_t ?_ | refine n_nil ?_ | refine d_nil ?_ | refine n_block ?_ | refine n_skip ?_ | refine n_bon ?_ | refine n_bback ?_ | refine n_back ?_ | refine n_out ?_ | refine n_bout rfl ?_ | refine n_bfar rfl ?_ | refine n_ret ?_ | refine n_exit ?_ | refine n_label ?_ | refine n_scope ?_ | refine n_son ?_ | refine n_sback ?_) | (with_reducible (first | apply n_region | apply d_region); (simp only [JV, JU, JW, Nat.reduceAdd, Nat.zero_add]; exact rfl)) | (with_reducible (first | apply s_op | apply n_guard | apply n_cond | apply d_guard | apply d_op | apply n_fin | apply n_finb); (simp (maxDischargeDepth := 6) only [sy3.1, zY, qG, qP, qQ, qR, qS, qT, rowAt, ↓jg, ↓ji, Nat.reduceAdd, Nat.reduceEqDiff, ne_eq, jG, Nat.reduceLT, if_true, ite_true, Int.reduceLE, Int.reduceLT, Int.reduceEq, Int.reduceNeg, Int.reduceAdd, Nat.reduceSub, if_false, ite_false, fs_3.1, vv, kind_pure, kind_load, kind_fresh, kind_other, jg, ji, undef]; first | exact rfl | exact ⟨rfl, rfl, rfl, rfl⟩); try (with_reducible refine calmK_in ?_; decide +kernel)))
  refine s_do _ (by
    simp (maxDischargeDepth := 6) only [sy3.1, zY, qG, qP, qQ, qR, qS, qT, rowAt, ↓jg, ↓ji, Nat.reduceAdd, Nat.reduceEqDiff, ne_eq, jG, Nat.reduceLT, if_true, ite_true, Int.reduceLE, Int.reduceLT, Int.reduceEq, Int.reduceNeg, Int.reduceAdd, Nat.reduceSub, if_false, ite_false, fs_3.1]
    exact hnew_ok (n := 997) clear14 100000 (by decide) (by decide)) ?_
  rintro v1 H1 ⟨o1, nx1, lg1, w, B, heq, hn1, hBi, hH, hfr, hmo⟩
  cases heq
  repeat (first | with_reducible (first | refine n_on ?_ | refine n_seq ?_ | refine s_else ?_ | refine n_t ?_ | refine n_gt ?_ | refine d_t ?_ | refine n_nil ?_ | refine d_nil ?_ | refine n_block ?_ | refine n_skip ?_ | refine n_bon ?_ | refine n_bback ?_ | refine n_back ?_ | refine n_out ?_ | refine n_bout rfl ?_ | refine n_bfar rfl ?_ | refine n_ret ?_ | refine n_exit ?_ | refine n_label ?_ | refine n_scope ?_ | refine n_son ?_ | refine n_sback ?_) | (with_reducible (first | apply n_region | apply d_region); (simp only [JV, JU, JW, Nat.reduceAdd, Nat.zero_add]; exact rfl)) | (with_reducible (first | apply s_op | apply n_guard | apply n_cond | apply d_guard | apply d_op | apply n_fin | apply n_finb); (simp (maxDischargeDepth := 6) only [sy3.1, zY, qG, qP, qQ, qR, qS, qT, rowAt, ↓jg, ↓ji, Nat.reduceAdd, Nat.reduceEqDiff, ne_eq, jG, Nat.reduceLT, if_true, ite_true, Int.reduceLE, Int.reduceLT, Int.reduceEq, Int.reduceNeg, Int.reduceAdd, Nat.reduceSub, if_false, ite_false, fs_3.1, vv, kind_pure, kind_load, kind_fresh, kind_other, jg, ji, undef]; first | exact rfl | exact ⟨rfl, rfl, rfl, rfl⟩); try (with_reducible refine calmK_in ?_; decide +kernel)))
  refine holds_step hc14 mixed_ (by kernel_rfl) (fuel := 999) ?_
  repeat (first | with_reducible (first | refine n_on ?_ | refine n_seq ?_ | refine s_else ?_ | refine n_t ?_ | refine n_gt ?_ | refine d_t ?_ | refine n_nil ?_ | refine d_nil ?_ | refine n_block ?_ | refine n_skip ?_ | refine n_bon ?_ | refine n_bback ?_ | refine n_back ?_ | refine n_out ?_ | refine n_bout rfl ?_ | refine n_bfar rfl ?_ | refine n_ret ?_ | refine n_exit ?_ | refine n_label ?_ | refine n_scope ?_ | refine n_son ?_ | refine n_sback ?_) | (with_reducible (first | apply n_region | apply d_region); (simp only [JV, JU, JW, Nat.reduceAdd, Nat.zero_add]; exact rfl)) | (with_reducible (first | apply s_op | apply n_guard | apply n_cond | apply d_guard | apply d_op | apply n_fin | apply n_finb); (simp (maxDischargeDepth := 6) only [sy3.1, zY, qG, qP, qQ, qR, qS, qT, rowAt, ↓jg, ↓ji, Nat.reduceAdd, Nat.reduceEqDiff, ne_eq, jG, Nat.reduceLT, if_true, ite_true, Int.reduceLE, Int.reduceLT, Int.reduceEq, Int.reduceNeg, Int.reduceAdd, Nat.reduceSub, if_false, ite_false, fs_3.1, vv, kind_pure, kind_load, kind_fresh, kind_other, jg, ji, undef]; first | exact rfl | exact ⟨rfl, rfl, rfl, rfl⟩); try (with_reducible refine calmK_in ?_; decide +kernel)))
  refine holds_step hc14 mixed_ (by kernel_rfl) (fuel := 999) ?_
  repeat (first | with_reducible (first | refine n_on ?_ | refine n_seq ?_ | refine s_else ?_ | refine n_t ?_ | refine n_gt ?_ | refine d_t ?_ | refine n_nil ?_ | refine d_nil ?_ | refine n_block ?_ | refine n_skip ?_ | refine n_bon ?_ | refine n_bback ?_ | refine n_back ?_ | refine n_out ?_ | refine n_bout rfl ?_ | refine n_bfar rfl ?_ | refine n_ret ?_ | refine n_exit ?_ | refine n_label ?_ | refine n_scope ?_ | refine n_son ?_ | refine n_sback ?_) | (with_reducible (first | apply n_region | apply d_region); (simp only [JV, JU, JW, Nat.reduceAdd, Nat.zero_add]; exact rfl)) | (with_reducible (first | apply s_op | apply n_guard | apply n_cond | apply d_guard | apply d_op | apply n_fin | apply n_finb); (simp (maxDischargeDepth := 6) only [sy3.1, zY, qG, qP, qQ, qR, qS, qT, rowAt, ↓jg, ↓ji, Nat.reduceAdd, Nat.reduceEqDiff, ne_eq, jG, Nat.reduceLT, if_true, ite_true, Int.reduceLE, Int.reduceLT, Int.reduceEq, Int.reduceNeg, Int.reduceAdd, Nat.reduceSub, if_false, ite_false, fs_3.1, vv, kind_pure, kind_load, kind_fresh, kind_other, jg, ji, undef]; first | exact rfl | exact ⟨rfl, rfl, rfl, rfl⟩); try (with_reducible refine calmK_in ?_; decide +kernel)))
  have hw2 : w (nx1 + 2) = 0 := by
    by_cases e : w (nx1 + 2) = 0
    · exact e
    · have := hH.wlt _ e; omega
  have M0 : HtIn z (nx1 + 2) B.i (o1.put (nx1 + 2) (some (.map [] 0))) (nx1 + 4) w B (hs0 100000) [] 0 :=
    ⟨hH.more (by omega) fun x hx => by (repeat (first | rw [qE] | rw [qF _ _ _ _ (by omega)])), rfl, ⟨good0 (by decide) (by decide), rfl, rfl, List.nodup_nil, rfl, by decide, by decide, rfl⟩, (hfr 0 (by omega)).2, hw2, by omega, by omega, by (repeat (first | rw [qE] | rw [qF _ _ _ _ (by omega)])); exact (hfr 0 (by omega)).1.trans hg, qE _ _ _, rfl⟩
  refine holds_step hc14 mixed_ (by kernel_rfl) (fuel := 999) ((ht_loops M0 rfl ?_ ?_ ?_ hoa).mono ?_)
  · simp only [qG, qC, qD, qE, qF, Tr.get_nil, ne_eq, not_false_eq_true, Nat.reduceEqDiff]
  · simp only [qC, qD, qE, qF, Tr.get_nil, ne_eq, not_false_eq_true, Nat.reduceEqDiff]
  · simp only [qC, qD, qE, qF, Tr.get_nil, ne_eq, not_false_eq_true, Nat.reduceEqDiff]
  rintro _ ⟨e1, H1, rfl, r, o2, nx2, lg2, w2, B2, hs2, es, c, rfl, M, hcnt, E⟩
  have g3 := E.g3; have g5 := E.g5
  refine n_on ?_
  refine holds_step hc14 mixed_ (by kernel_rfl) (fuel := 999) ?_
  repeat (first | with_reducible (first | refine n_on ?_ | refine n_seq ?_ | refine s_else ?_ | refine n_t ?_ | refine n_gt ?_ | refine d_t ?_ | refine n_nil ?_ | refine d_nil ?_ | refine n_block ?_ | refine n_skip ?_ | refine n_bon ?_ | refine n_bback ?_ | refine n_back ?_ | refine n_out ?_ | refine n_bout rfl ?_ | refine n_bfar rfl ?_ | refine n_ret ?_ | refine n_exit ?_ | refine n_label ?_ | refine n_scope ?_ | refine n_son ?_ | refine n_sback ?_) | (with_reducible (first | apply n_region | apply d_region); (simp only [JV, JU, JW, Nat.reduceAdd, Nat.zero_add]; exact rfl)) | (with_reducible (first | apply s_op | apply n_guard | apply n_cond | apply d_guard | apply d_op | apply n_fin | apply n_finb); (simp (maxDischargeDepth := 6) only [sy3.1, zY, qG, qP, qQ, qR, qS, qT, rowAt, ↓jg, ↓ji, Nat.reduceAdd, Nat.reduceEqDiff, ne_eq, jG, Nat.reduceLT, if_true, ite_true, Int.reduceLE, Int.reduceLT, Int.reduceEq, Int.reduceNeg, Int.reduceAdd, Nat.reduceSub, if_false, ite_false, fs_3.1, g3, g5, kind_pure, kind_load, kind_fresh, kind_other, jg, ji, undef]; first | exact rfl | exact ⟨rfl, rfl, rfl, rfl⟩); try (with_reducible refine calmK_in ?_; decide +kernel)))
  have hse := M.seen
  have hml := M.ltm
  have hwn : w2 nx2 = 0 := by
    by_cases e : w2 nx2 = 0
    · exact e
    · have := M.heap.wlt _ e; omega
  obtain ⟨hkey, hinj⟩ := seen_inj M.kv (by
    have := M.T.good.keys
    rw [M.T.objs, List.map_map] at this
    exact this)
  refine holds_seq (I := fun e h => ∃ seen o nx lg, h = (⟨o, nx, lg⟩ : AHeap) ∧ NumIn z (nx1 + 2) B.i nx2 96 (nx2 + 2) w2 B2 hs2 es c seen e o nx) ?_ ?_
  rotate_left
  · rintro e3 _ ⟨seen, o3, nx3, lg3, rfl, N⟩
    exact holds_got hc14 mixed_ (by kernel_rfl) (ht_tail N hcnt)
  refine holds_range (call := oCall Try.prog [] O14 999) (fuel := 999) Try.underlying27 hc14 mixed_ (by kernel_rfl) (by decide) (by decide) (by kernel_rfl) (by kernel_rfl) (m := nx1 + 2) (es := es) (ck := c) (by simp only [qC, qD, qE, qF, Tr.get_nil, ne_eq, not_false_eq_true, Nat.reduceEqDiff, g5]) (by show Tr.get _ (nx1 + 2) = _; (repeat (first | rw [qE] | rw [qF _ _ _ _ (by omega)])); exact hse) (fun seen e h => ∃ o nx lg, h = (⟨o, nx, lg⟩ : AHeap) ∧ NumIn z (nx1 + 2) B.i nx2 96 (nx2 + 2) w2 B2 hs2 es c seen e o nx) ?_ ?_ ?_ ?_
  · refine ⟨_, nx2 + 3, _, rfl, ⟨M.more (by omega) fun x hx => by (repeat (first | rw [qE] | rw [qF _ _ _ _ (by omega)])), by omega, hwn, by omega, by omega, ⟨[], 0, [], by show Tr.get _ nx2 = _; (repeat (first | rw [qE] | rw [qF _ _ _ _ (by omega)])), rfl, fun y d _ _ h => by cases h⟩, ?_, ?_, ?_, ?_⟩⟩
    · simp only [qC, qD, qE, qF, Tr.get_nil, ne_eq, not_false_eq_true, Nat.reduceEqDiff, g3]
    · simp only [qC, qD, qE, qF, Tr.get_nil, ne_eq, not_false_eq_true, Nat.reduceEqDiff, g5]
    · simp only [qC, qD, qE, qF, Tr.get_nil, ne_eq, not_false_eq_true, Nat.reduceEqDiff]
    · simp only [qC, qD, qE, qF, Tr.get_nil, ne_eq, not_false_eq_true, Nat.reduceEqDiff]
  · rintro seen e3 _ ⟨o3, nx3, lg3, rfl, N⟩
    exact ⟨N.gi, N.M.seen⟩
  · rintro seen e3 _ ⟨o3, nx3, lg3, rfl, N⟩ _
    refine n_on ?_
    refine ⟨seen, o3, nx3, lg3, rfl, N.M, N.ltn, N.wn, N.ne, N.n0, N.num, ?_, ?_, ?_, ?_⟩
    · simp only [qC, qD, qE, qF, Tr.get_nil, ne_eq, not_false_eq_true, Nat.reduceEqDiff, N.g3]
    · simp only [qC, qD, qE, qF, Tr.get_nil, ne_eq, not_false_eq_true, Nat.reduceEqDiff, N.g5]
    · simp only [qC, qD, qE, qF, Tr.get_nil, ne_eq, not_false_eq_true, Nat.reduceEqDiff, N.g14]
    · simp only [qC, qD, qE, qF, Tr.get_nil, ne_eq, not_false_eq_true, Nat.reduceEqDiff, N.gi]
  · rintro seen e3 _ x ⟨o3, nx3, lg3, rfl, N⟩ hx
    have hxm := (List.mem_filter.1 hx).1
    have hxs : x.born ∉ seen := by
      have := (List.mem_filter.1 hx).2
      intro h
      rw [List.contains_iff_mem.2 h] at this
      cases this
    obtain ⟨q, hq, ek, ev⟩ := hkey x hxm
    obtain ⟨en, cn, l, hen, hmn, hold⟩ := N.num
    have hdl : q.2 ∉ l := fun h => hxs (hold x q.2 hxm ev h)
    have hfk : findK q.2 (l.map fun d => (d, (.bool true : Value))) 0 = none := by
      rcases find_mem q.2 (fun _ => .bool true) l 0 with ⟨_, h⟩ | ⟨h, _⟩
      · exact h
      · exact absurd h hdl
    have hlk : ∀ H : AHeap, H.get nx2 = some (.map en cn) → aLookup Try.prog 36 (.map (some nx2)) (.int .i64 q.2) false H = _ := fun H hg => aLookup_by key_i64 Try.underlying36 (show zeroOf Try.prog 4 = some (.bool false) by kernel_rfl) hg hmn q.2 false
    rw [hfk] at hlk
    obtain ⟨en', cn', hput, hmn'⟩ := map_put key_i64 Try.underlying36 hmn nx2 cn q.2 (.bool true)
    rw [put_noted, if_neg hdl] at hmn'
    have g14 := N.g14
    have gi := N.gi
    have lt2 := N.ltn
    rw [ek, ev]
    dsimp only
    repeat (first | with_reducible (first | refine n_on ?_ | refine n_seq ?_ | refine s_else ?_ | refine n_t ?_ | refine n_gt ?_ | refine d_t ?_ | refine n_nil ?_ | refine d_nil ?_ | refine n_block ?_ | refine n_skip ?_ | refine n_bon ?_ | refine n_bback ?_ | refine n_back ?_ | refine n_out ?_ | refine n_bout rfl ?_ | refine n_bfar rfl ?_ | refine n_ret ?_ | refine n_exit ?_ | refine n_label ?_ | refine n_scope ?_ | refine n_son ?_ | refine n_sback ?_) | (with_reducible (first | apply n_region | apply d_region); (simp only [JV, JU, JW, Nat.reduceAdd, Nat.zero_add]; exact rfl)) | (with_reducible (first | apply s_op | apply n_guard | apply n_cond | apply d_guard | apply d_op | apply n_fin | apply n_finb); (simp (maxDischargeDepth := 6) only [sy3.1, zY, qG, qP, qQ, qR, qS, qT, rowAt, ↓jg, ↓ji, Nat.reduceAdd, Nat.reduceEqDiff, ne_eq, jG, Nat.reduceLT, if_true, ite_true, Int.reduceLE, Int.reduceLT, Int.reduceEq, Int.reduceNeg, Int.reduceAdd, Nat.reduceSub, if_false, ite_false, fs_3.1, g14, hen, hlk, hput, lt2, kind_pure, kind_load, kind_fresh, kind_other, jg, ji, undef]; first | exact rfl | exact ⟨rfl, rfl, rfl, rfl⟩); try (with_reducible refine calmK_in ?_; decide +kernel)))
    refine s_nil ?_
    dsimp only
    repeat (first | with_reducible (first | refine n_on ?_ | refine n_seq ?_ | refine s_else ?_ | refine n_t ?_ | refine n_gt ?_ | refine d_t ?_ | refine n_nil ?_ | refine d_nil ?_ | refine n_block ?_ | refine n_skip ?_ | refine n_bon ?_ | refine n_bback ?_ | refine n_back ?_ | refine n_out ?_ | refine n_bout rfl ?_ | refine n_bfar rfl ?_ | refine n_ret ?_ | refine n_exit ?_ | refine n_label ?_ | refine n_scope ?_ | refine n_son ?_ | refine n_sback ?_) | (with_reducible (first | apply n_region | apply d_region); (simp only [JV, JU, JW, Nat.reduceAdd, Nat.zero_add]; exact rfl)) | (with_reducible (first | apply s_op | apply n_guard | apply n_cond | apply d_guard | apply d_op | apply n_fin | apply n_finb); (simp (maxDischargeDepth := 6) only [sy3.1, zY, qG, qP, qQ, qR, qS, qT, rowAt, ↓jg, ↓ji, Nat.reduceAdd, Nat.reduceEqDiff, ne_eq, jG, Nat.reduceLT, if_true, ite_true, Int.reduceLE, Int.reduceLT, Int.reduceEq, Int.reduceNeg, Int.reduceAdd, Nat.reduceSub, if_false, ite_false, fs_3.1, g14, hen, hlk, hput, lt2, kind_pure, kind_load, kind_fresh, kind_other, jg, ji, undef]; first | exact rfl | exact ⟨rfl, rfl, rfl, rfl⟩); try (with_reducible refine calmK_in ?_; decide +kernel)))
    have hne := N.ne
    have hn0 := N.n0
    have hlm := N.M.ltm
    refine ⟨_, _, rfl, _, _, _, rfl, ⟨N.M.heap.keep (by omega) (fun y hy => by have := N.M.heap.wlt y hy; omega) fun y hy => ⟨?_, rfl⟩, N.M.hB, N.M.T, N.M.w0, N.M.wm, by omega, N.M.m0, ?_, ?_, N.M.kv⟩, by omega, N.wn, N.ne, N.n0, ⟨en', cn', l ++ [q.2], ?_, hmn', fun y d hy hd hdm => ?_⟩, ?_, ?_, ?_, ?_⟩
    · have := N.M.heap.wlt y hy
      have v1 : y ≠ nx2 := fun e => hy (by rw [e]; exact N.wn)
      (repeat (first | rw [qE] | rw [qF _ _ _ _ (by omega)]))
    · (repeat (first | rw [qE] | rw [qF _ _ _ _ (by omega)]))
      exact N.M.row
    · (repeat (first | rw [qE] | rw [qF _ _ _ _ (by omega)]))
      exact N.M.seen
    · (repeat (first | rw [qE] | rw [qF _ _ _ _ (by omega)]))
    · rcases List.mem_append.1 hdm with h | h
      · exact List.mem_append_left _ (hold y d hy hd h)
      · simp only [List.mem_singleton] at h
        subst h
        rw [hinj y hy x hxm (hd.trans ev.symm)]
        simp
    · simp only [qC, qD, qE, qF, Tr.get_nil, ne_eq, not_false_eq_true, Nat.reduceEqDiff, N.g3]
    · simp only [qC, qD, qE, qF, Tr.get_nil, ne_eq, not_false_eq_true, Nat.reduceEqDiff, N.g5]
    · simp only [qC, qD, qE, qF, Tr.get_nil, ne_eq, not_false_eq_true, Nat.reduceEqDiff, N.g14]
    · simp only [qC, qD, qE, qF, Tr.get_nil, ne_eq, not_false_eq_true, Nat.reduceEqDiff, N.gi]
theorem texts_walk (a0 : Option Addr) (len0 cap0 : Nat) (zs : List ByteArray) (hl : zs.length = len0) (w : World) (hr : CellRow w a0 len0 cap0 (zs.map Value.string)) :
    Calls Try.prog 3 #[.slice a0 len0 cap0] w fun e w' => e = .returned (.bool true) ∧ Below w.heap.size w w' := by
  subst hl
  have hok : ∀ g ∈ [GV.sl a0 zs.length cap0 (zs.map Value.string)], g.ok w := fun g hg => by
    simp only [List.mem_cons, List.not_mem_nil, or_false] at hg
    subst hg
    refine ⟨hr, ?_⟩
    rw [List.all_eq_true]
    intro v hv
    obtain ⟨s, _, rfl⟩ := List.mem_map.1 hv
    rfl
  obtain ⟨hrel, hwf⟩ := vH_rel hok
  have hlaw := ht_law zs (a0.map fun _ => ⟨0, 0, none⟩) (fun h0 => by
    rcases hr with ⟨_, h, _⟩ | ⟨x, rfl, _⟩
    · omega
    · rfl) _ ((vH_get [GV.sl a0 zs.length cap0 (zs.map Value.string)] 0).trans rfl)
  refine (calls_holds Try.func3 (show (Try.f3).body = some (bodyOf Try.f3) from rfl) (by kernel_rfl) hlaw hwf hrel (vArgs hok)).mono fun e w' hh => ?_
  obtain ⟨rfl, β', H', h2⟩ := hh
  exact ⟨rfl, h2.below (fun i s hi => by obtain ⟨x, n, c, z, _, rfl⟩ := vBe_at hi; rfl)⟩
end Go.Proofs.Ythnlkahgmbadoaa
