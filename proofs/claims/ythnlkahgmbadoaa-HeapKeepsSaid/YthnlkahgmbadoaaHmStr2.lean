/- Heap: Str, on the abstract machine, where nothing is noted. -/
import Derived.Test.YthnlkahgmbadoaaHmStr
namespace Go.Proofs.Ythnlkahgmbadoaa
open Go.RowKit
set_option linter.unusedSimpArgs false
set_option linter.unusedVariables false
set_option maxRecDepth 100000

section
variable {O : Helps} {n : Nat} {o : Tr AObj} {nx : Nat} {lg : List Nat} {w : Nat → Nat} {B : HB} {hs : HS}
/-- Str: a text that is there, or a new one -/
def strOb (s : ByteArray) : Ob := ⟨4, 0, s, [], (0, 0), 0, [], (0, 0)⟩
def strO (hs : HS) (s : ByteArray) : HS × VV × Int := match lookT hs.texts s with
  | some d => (hs, (4, d), 0)
  | none => if (addO hs (strOb s) (1 + Int.ofNat s.1.toList.length / 16)).2.2 = 0 then ({ (addO hs (strOb s) (1 + Int.ofNat s.1.toList.length / 16)).1 with texts := (addO hs (strOb s) (1 + Int.ofNat s.1.toList.length / 16)).1.texts ++ [(s, (addO hs (strOb s) (1 + Int.ofNat s.1.toList.length / 16)).2.1.2)] }, (addO hs (strOb s) (1 + Int.ofNat s.1.toList.length / 16)).2.1, 0) else addO hs (strOb s) (1 + Int.ofNat s.1.toList.length / 16)
set_option maxHeartbeats 16000000 in
theorem str_known (hO : Clear O) (h : HeapIn o nx w B hs) (hw : hs.watch = false) (s : ByteArray) (hs1 : s.1.toList.length ≤ 65535) {d : Int} (hd : lookT hs.texts s = some d) :
    Got (oCall Try.prog [] O (n + 5) 6 [.pointer (some ⟨B.i, 0, none⟩), .string s] ⟨o, nx, lg⟩) (HTo o nx lg w B hs (strO hs s).1 (.tuple #[vv (strO hs s).2.1, .int .i64 (strO hs s).2.2])) := by
  obtain ⟨z, hr⟩ := h.row
  have hi := h.lt
  obtain ⟨es, c, hm, hmap⟩ := h.texts
  have hmt := h.wlt B.mt (by rw [h.wmt]; decide)
  have hright := hright_ok (n := n + 3) (i := B.i) (m := B.ma) (p := B.p) (c0 := .int .i64 hs.max) (c3 := .map (some B.mt)) (c4 := .int .i64 hs.made) (c5 := .bool hs.watch) (c6 := .map (some B.mn)) (e := 64) (z := z) (own := true) hO
  have hnote := fun (X : AObj) (q : Nat) (lg : List Nat) (d : Int) => note_off (n := n + 3) (lg := lg) hO (more1 h (some X) q) hw d
  have hl : ∀ H : AHeap, H.get B.mt = some (.map es c) → aLookup Try.prog 61 (.map (some B.mt)) (.string s) true H = _ := fun H hg => aLookup_by key_str Try.underlying61 (show zeroOf Try.prog 3 = some (.int .i64 0) by kernel_rfl) hg hmap s true
  rcases kv_txt s hs.texts 0 with ⟨h1, _⟩ | ⟨d', r, h1, h2⟩
  · rw [hd] at h1; cases h1
  rw [h2] at hl
  rw [hd] at h1
  cases h1
  have hgt : decide ((65535 : Int) < Int.ofNat s.1.toList.length) = false := decide_eq_false (by simp only [Int.ofNat_eq_natCast]; omega)
  have e0 : strO hs s = (hs, (4, d), 0) := by unfold strO; rw [hd]
  rw [e0]
  rw [y_fn (rs := [.cell 4 30, .tmp 5]) (hO _ (by decide)) Try.func6 rfl (by kernel_rfl) rfl rfl]
  repeat (first | with_reducible (first | refine n_on ?_ | refine n_seq ?_ | refine s_else ?_ | refine n_t ?_ | refine n_gt ?_ | refine d_t ?_ | refine n_nil ?_ | refine d_nil ?_ | refine n_block ?_ | refine n_skip ?_ | refine n_bon ?_ | refine n_bback ?_ | refine n_back ?_ | refine n_out ?_ | refine n_bout rfl ?_ | refine n_bfar rfl ?_ | refine n_ret ?_ | refine n_exit ?_ | refine n_label ?_ | refine n_scope ?_ | refine n_son ?_ | refine n_sback ?_) | (with_reducible (first | apply n_region | apply d_region); (simp only [JV, JU, JW, Nat.reduceAdd, Nat.zero_add]; exact rfl)) | (with_reducible (first | apply s_op | apply n_guard | apply n_cond | apply d_guard | apply d_op | apply n_fin | apply n_finb); (simp (maxDischargeDepth := 6) only [sy3.1, zY, qG, qP, qQ, qR, qS, qT, rowAt, ↓jg, ↓ji, Nat.reduceAdd, Nat.reduceEqDiff, ne_eq, jG, Nat.reduceLT, if_true, ite_true, Int.reduceLE, Int.reduceLT, Int.reduceEq, Int.reduceNeg, Int.reduceAdd, Nat.reduceSub, if_false, ite_false, fs_6.1, heapRow, hr, hi, hright, hnote, hm, hmt, hl, hgt, vv, kind_pure, kind_load, kind_fresh, kind_other, jg, ji, undef]; first | exact rfl | exact ⟨rfl, rfl, rfl, rfl⟩); try (with_reducible refine calmK_in ?_; decide +kernel)))
  exact quiet_end (by simp only [all_relogL, js, ju, List.all_nil, jt, Bool.and_self]) (by rfl) (.same h _)
theorem HeapIn.texted {o' : Tr AObj} {nx' : Nat} (h : HeapIn o nx w B hs) (hn : nx ≤ nx') {es : List MapEntry} {c : Nat} {T : List (ByteArray × Int)} (hm : o'.get B.mt = some (.map es c)) (hmap : MapIs Value.string es (T.map fun q => (q.1, .int .i64 q.2))) (hk : ∀ x, w x ≠ 0 → x ≠ B.mt → o'.get x = o.get x) : HeapIn o' nx' w B { hs with texts := T } := by
  have k : ∀ x, w x ≠ 0 → w x ≠ 6 → o'.get x = o.get x := fun x h0 h6 => hk x h0 fun e => h6 (by rw [e]; exact h.wmt)
  obtain ⟨z, hr⟩ := h.row
  obtain ⟨es1, c1, h1, h2⟩ := h.all
  obtain ⟨es3, c3, h3, h4⟩ := h.noted
  refine ⟨fun x hx => Nat.lt_of_lt_of_le (h.wlt x hx) hn, h.wi, h.wp, h.wa, h.wb, h.wma, h.wmt, h.wmn, ⟨z, ?_⟩, h.pool.keep hn ?_, ⟨es1, c1, ?_, h2⟩, fun q hq => (h.obs q hq).keep hn fun x hx hob => ⟨k x ?_ ?_, rfl⟩, ⟨es, c, hm, hmap⟩, ⟨es3, c3, ?_, h4⟩⟩
  · rw [k _ (by rw [h.wi]; decide) (by rw [h.wi]; decide)]; exact hr
  · rintro x (rfl | e | e)
    · exact k _ (by rw [h.wp]; decide) (by rw [h.wp]; decide)
    · exact k _ (by rw [h.wa x e]; decide) (by rw [h.wa x e]; decide)
    · exact k _ (by rw [h.wb x e]; decide) (by rw [h.wb x e]; decide)
  · rw [k _ (by rw [h.wma]; decide) (by rw [h.wma]; decide)]; exact h1
  · have := hob.1; omega
  · have := hob.1; omega
  · rw [k _ (by rw [h.wmn]; decide) (by rw [h.wmn]; decide)]; exact h3
theorem add_texts (hs : HS) (ob : Ob) (size : Int) : (addO hs ob size).1.texts = hs.texts := by unfold addO; split <;> rfl
theorem put_txt {l : List (ByteArray × Int)} {s : ByteArray} (h : lookT l s = none) (d : Int) : putK s (.int .i64 d) (l.map fun q => (q.1, .int .i64 q.2)) = (l ++ [(s, d)]).map fun q => (q.1, (.int .i64 q.2 : Value)) := by
  unfold putK
  rcases kv_txt s l 0 with ⟨_, h2⟩ | ⟨d', r, h1, _⟩
  · rw [h2]; simp
  · rw [h] at h1; cases h1
set_option maxHeartbeats 16000000 in
theorem str_new (hO : Clear O) (h : HeapIn o nx w B hs) (hw : hs.watch = false) (s : ByteArray) (hs1 : s.1.toList.length ≤ 65535) (hd : lookT hs.texts s = none) (hG : HGood hs) (hc : hs.pool.count < 65536) (hmade : hs.made < 4611686018427387904) (hn : hs.pool.sizes.length < n) :
    Got (oCall Try.prog [] O (n + 5) 6 [.pointer (some ⟨B.i, 0, none⟩), .string s] ⟨o, nx, lg⟩) (HTo o nx lg w B hs (strO hs s).1 (.tuple #[vv (strO hs s).2.1, .int .i64 (strO hs s).2.2])) := by
  obtain ⟨z, hr⟩ := h.row
  have hi := h.lt
  obtain ⟨es, c, hm, hmap⟩ := h.texts
  have hmt := h.wlt B.mt (by rw [h.wmt]; decide)
  have hright := hright_ok (n := n + 3) (i := B.i) (m := B.ma) (p := B.p) (c0 := .int .i64 hs.max) (c3 := .map (some B.mt)) (c4 := .int .i64 hs.made) (c5 := .bool hs.watch) (c6 := .map (some B.mn)) (e := 64) (z := z) (own := true) hO
  have hnote := fun (X : AObj) (q : Nat) (lg : List Nat) (d : Int) => note_off (n := n + 3) (lg := lg) hO (more1 h (some X) q) hw d
  have hl : ∀ H : AHeap, H.get B.mt = some (.map es c) → aLookup Try.prog 61 (.map (some B.mt)) (.string s) true H = _ := fun H hg => aLookup_by key_str Try.underlying61 (show zeroOf Try.prog 3 = some (.int .i64 0) by kernel_rfl) hg hmap s true
  rcases kv_txt s hs.texts 0 with ⟨h1, h2⟩ | ⟨d', r, h1, h2⟩
  rotate_left
  · rw [hd] at h1; cases h1
  rw [h2] at hl
  have hgt : decide ((65535 : Int) < Int.ofNat s.1.toList.length) = false := decide_eq_false (by simp only [Int.ofNat_eq_natCast]; omega)
  have h16 : (16 : Int) ≠ 0 := by decide
  have hL : s.1.toList.length / 16 ≤ 4096 := by omega
  have wq : IntKind.i64.wrap ((Int.ofNat s.1.toList.length).tdiv 16) = Int.ofNat (s.1.toList.length / 16) := by
    rw [show (Int.ofNat s.1.toList.length).tdiv 16 = ((s.1.toList.length / 16 : Nat) : Int) from by simp only [Int.ofNat_eq_natCast]; rfl]
    exact wrap_small _ (by omega) (by omega)
  have wq1 : IntKind.i64.wrap (1 + Int.ofNat (s.1.toList.length / 16)) = 1 + Int.ofNat (s.1.toList.length / 16) := wrap_small _ (by simp only [Int.ofNat_eq_natCast]; omega) (by simp only [Int.ofNat_eq_natCast]; omega)
  rw [y_fn (rs := [.cell 4 30, .tmp 5]) (hO _ (by decide)) Try.func6 rfl (by kernel_rfl) rfl rfl]
  repeat (first | with_reducible (first | refine n_on ?_ | refine n_seq ?_ | refine s_else ?_ | refine n_t ?_ | refine n_gt ?_ | refine d_t ?_ | refine n_nil ?_ | refine d_nil ?_ | refine n_block ?_ | refine n_skip ?_ | refine n_bon ?_ | refine n_bback ?_ | refine n_back ?_ | refine n_out ?_ | refine n_bout rfl ?_ | refine n_bfar rfl ?_ | refine n_ret ?_ | refine n_exit ?_ | refine n_label ?_ | refine n_scope ?_ | refine n_son ?_ | refine n_sback ?_) | (with_reducible (first | apply n_region | apply d_region); (simp only [JV, JU, JW, Nat.reduceAdd, Nat.zero_add]; exact rfl)) | (with_reducible (first | apply s_op | apply n_guard | apply n_cond | apply d_guard | apply d_op | apply n_fin | apply n_finb); (simp (maxDischargeDepth := 6) only [sy3.1, zY, qG, qP, qQ, qR, qS, qT, rowAt, ↓jg, ↓ji, Nat.reduceAdd, Nat.reduceEqDiff, ne_eq, jG, Nat.reduceLT, if_true, ite_true, Int.reduceLE, Int.reduceLT, Int.reduceEq, Int.reduceNeg, Int.reduceAdd, Nat.reduceSub, if_false, ite_false, fs_6.1, heapRow, hr, hi, hright, hnote, hm, hmt, hl, hgt, vv, b_quo h16, wq, wq1, kind_pure, kind_load, kind_fresh, kind_other, jg, ji, undef]; first | exact rfl | exact ⟨rfl, rfl, rfl, rfl⟩); try (with_reducible refine calmK_in ?_; decide +kernel)))
  have hsz : (0 : Int) ≤ 1 + Int.ofNat (s.1.toList.length / 16) := by simp only [Int.ofNat_eq_natCast]; omega
  have hsz2 : 1 + Int.ofNat (s.1.toList.length / 16) < 1000000 := by simp only [Int.ofNat_eq_natCast]; omega
  have eS : (1 : Int) + Int.ofNat s.1.toList.length / 16 = 1 + Int.ofNat (s.1.toList.length / 16) := by simp only [Int.ofNat_eq_natCast]; omega
  obtain ⟨sz, hszd⟩ : ∃ sz, 1 + Int.ofNat (s.1.toList.length / 16) = sz := ⟨_, rfl⟩
  have e0 : strO hs s = if (addO hs (strOb s) sz).2.2 = 0 then ({ (addO hs (strOb s) sz).1 with texts := (addO hs (strOb s) sz).1.texts ++ [(s, (addO hs (strOb s) sz).2.1.2)] }, (addO hs (strOb s) sz).2.1, 0) else addO hs (strOb s) sz := by unfold strO; rw [hd, eS, hszd]
  rw [hszd] at hsz hsz2 ⊢
  have h15 : HeapIn ((o.put nx (some (.row [.int .u8 0, .int .i64 0] 30 0 true))).put (nx + 25) (some (.row (obRow (strOb s) none none none 0) 72 0 true))) (nx + 37) w B hs := h.more (by omega) fun x hx => by (repeat (first | rw [qE] | rw [qF _ _ _ _ (by omega)]))
  obtain ⟨w1, hw1e⟩ : ∃ w1 : Nat → Nat, w1 = fun x => if x = nx + 25 then 8 + 5 * (takeP hs.pool sz).2.1.toNat else w x := ⟨_, rfl⟩
  have hwnx : ∀ x, nx ≤ x → w x = 0 := fun x hx => by
    by_cases e : w x = 0
    · exact e
    · have := h.wlt x e; omega
  have hw1o : ∀ x, x ≠ nx + 25 → w1 x = w x := fun x hx => by rw [hw1e]; simp only [hx, if_false]
  refine s_do _ (by
    simp (maxDischargeDepth := 6) only [sy3.1, zY, qG, qP, qQ, qR, qS, qT, rowAt, ↓jg, ↓ji, Nat.reduceAdd, Nat.reduceEqDiff, ne_eq, jG, Nat.reduceLT, if_true, ite_true, Int.reduceLE, Int.reduceLT, Int.reduceEq, Int.reduceNeg, Int.reduceAdd, Nat.reduceSub, if_false, ite_false, fs_6.1]
    refine add_ok (w1 := w1) (ob := strOb s) hO h15 hG (fun x hx => hw1o x fun e => hx (by rw [e]; exact hwnx _ (by omega))) (fun x hx => ?_) hsz hsz2 hc hmade (hwnx _ (by omega)) (fun _ => ⟨by omega, by rw [hw1e]; simp only [if_true], none, none, none, 0, 0, qE _ _ _, .inl ⟨rfl, rfl⟩, .inl rfl, fun q e => (by cases e), fun e => (by cases e)⟩) hn
    by_cases e : x = nx + 25
    · omega
    · rw [hw1o x e] at hx; have := h.wlt x hx; omega) ?_
  rintro v1 H1 ⟨o1, nx1, lg1, w', B', heq, hn1, hH1, hB, hfr, hmo, hlz⟩
  cases heq
  have hr4 : o1.get nx = some (.row [.int .u8 0, .int .i64 0] 30 0 true) := by
    rw [(hfr nx (by omega) (by rw [hw1o _ (by omega)]; exact hwnx _ (by omega))).1]; (repeat (first | rw [qE] | rw [qF _ _ _ _ (by omega)]))
  have hwf : w' nx = 0 := (hfr nx (by omega) (by rw [hw1o _ (by omega)]; exact hwnx _ (by omega))).2
  obtain ⟨z1, hr1⟩ := hH1.row
  rw [hB] at hr1
  have hi1 : B.i < nx1 := by omega
  obtain ⟨es1, c1, hm1, hmap1⟩ := hH1.texts
  have hmt1 := hH1.wlt B'.mt (by rw [hH1.wmt]; decide)
  have hnm : nx ≠ B'.mt := fun e => by rw [e, hH1.wmt] at hwf; cases hwf
  obtain ⟨es', c', hput, hmap'⟩ := map_put key_str Try.underlying61 hmap1 B'.mt c1 s (.int .i64 (addO hs (strOb s) sz).2.1.2)
  have hwf2 : w' (nx + 34) = 0 := (hfr (nx + 34) (by omega) (by rw [hw1o _ (by omega)]; exact hwnx _ (by omega))).2
  have hnm2 : B'.mt ≠ nx + 34 := fun e => by rw [← e, hH1.wmt] at hwf2; cases hwf2
  have hnm3 := Ne.symm hnm2
  have hnm4 := Ne.symm hnm
  rw [e0]
  by_cases he : (addO hs (strOb s) sz).2.2 = 0
  · rw [if_pos he]
    repeat (first | with_reducible (first | refine n_on ?_ | refine n_seq ?_ | refine s_else ?_ | refine n_t ?_ | refine n_gt ?_ | refine d_t ?_ | refine n_nil ?_ | refine d_nil ?_ | refine n_block ?_ | refine n_skip ?_ | refine n_bon ?_ | refine n_bback ?_ | refine n_back ?_ | refine n_out ?_ | refine n_bout rfl ?_ | refine n_bfar rfl ?_ | refine n_ret ?_ | refine n_exit ?_ | refine n_label ?_ | refine n_scope ?_ | refine n_son ?_ | refine n_sback ?_) | (with_reducible (first | apply n_region | apply d_region); (simp only [JV, JU, JW, Nat.reduceAdd, Nat.zero_add]; exact rfl)) | (with_reducible (first | apply s_op | apply n_guard | apply n_cond | apply d_guard | apply d_op | apply n_fin | apply n_finb); (simp (maxDischargeDepth := 6) only [sy3.1, zY, qG, qP, qQ, qR, qS, qT, rowAt, ↓jg, ↓ji, Nat.reduceAdd, Nat.reduceEqDiff, ne_eq, jG, Nat.reduceLT, if_true, ite_true, Int.reduceLE, Int.reduceLT, Int.reduceEq, Int.reduceNeg, Int.reduceAdd, Nat.reduceSub, if_false, ite_false, fs_6.1, hr4, vv, heapRow, hr1, hi, hi1, hm1, hmt1, hput, decide_eq_true he, hnm, hnm2, hnm3, hnm4, kind_pure, kind_load, kind_fresh, kind_other, jg, ji, undef]; first | exact rfl | exact ⟨rfl, rfl, rfl, rfl⟩); try (with_reducible refine calmK_in ?_; decide +kernel)))
    have hput2 := put_txt (l := (addO hs (strOb s) sz).1.texts) (by rw [add_texts]; exact hd) (addO hs (strOb s) sz).2.1.2
    rw [hput2] at hmap'
    rw [he]
    refine hto_end h (w' := w') (B' := B') (by rfl) (hH1.texted (T := (addO hs (strOb s) sz).1.texts ++ [(s, (addO hs (strOb s) sz).2.1.2)]) (by omega) (es := es') (c := c') (by (repeat (first | rw [qE] | rw [qF _ _ _ _ (by omega)]))) hmap' fun x hx hxm => ?_) (by omega) hB (fun x hx hw0 => ?_) ?_
    · have e1 : x ≠ nx := fun e => hx (by rw [e]; exact hwf)
      have e2 : x ≠ nx + 34 := fun e => hx (by rw [e]; exact hwf2)
      (repeat (first | rw [qE] | rw [qF _ _ _ _ (by omega)]))
    · have := hfr x (by omega) (by rw [hw1o x (by omega)]; exact hw0)
      have e1 : x ≠ B'.mt := fun e => by rw [e, hH1.wmt] at this; cases this.2
      refine ⟨?_, this.2⟩
      (repeat (first | rw [qE] | rw [qF _ _ _ _ (by omega)]))
      rw [this.1]
      (repeat (first | rw [qE] | rw [qF _ _ _ _ (by omega)]))
    · rcases hlz with ⟨x, hx, hw⟩ | ⟨_, _, _, _, e2, e⟩
      · exact .inl ⟨x, by simp only [in_note, in_relogL, hx, or_true, true_or], hw⟩
      · exact .inl ⟨B.mt, by rw [e2]; simp only [in_note, in_relogL, true_or, or_true], by rw [h.wmt]; decide⟩
  · rw [if_neg he]
    repeat (first | with_reducible (first | refine n_on ?_ | refine n_seq ?_ | refine s_else ?_ | refine n_t ?_ | refine n_gt ?_ | refine d_t ?_ | refine n_nil ?_ | refine d_nil ?_ | refine n_block ?_ | refine n_skip ?_ | refine n_bon ?_ | refine n_bback ?_ | refine n_back ?_ | refine n_out ?_ | refine n_bout rfl ?_ | refine n_bfar rfl ?_ | refine n_ret ?_ | refine n_exit ?_ | refine n_label ?_ | refine n_scope ?_ | refine n_son ?_ | refine n_sback ?_) | (with_reducible (first | apply n_region | apply d_region); (simp only [JV, JU, JW, Nat.reduceAdd, Nat.zero_add]; exact rfl)) | (with_reducible (first | apply s_op | apply n_guard | apply n_cond | apply d_guard | apply d_op | apply n_fin | apply n_finb); (simp (maxDischargeDepth := 6) only [sy3.1, zY, qG, qP, qQ, qR, qS, qT, rowAt, ↓jg, ↓ji, Nat.reduceAdd, Nat.reduceEqDiff, ne_eq, jG, Nat.reduceLT, if_true, ite_true, Int.reduceLE, Int.reduceLT, Int.reduceEq, Int.reduceNeg, Int.reduceAdd, Nat.reduceSub, if_false, ite_false, fs_6.1, hr4, vv, decide_eq_false he, kind_pure, kind_load, kind_fresh, kind_other, jg, ji, undef]; first | exact rfl | exact ⟨rfl, rfl, rfl, rfl⟩); try (with_reducible refine calmK_in ?_; decide +kernel)))
    refine hto_end h (w' := w') (B' := B') (by rfl) (hH1.keep (by omega) (fun x hx => by have := hH1.wlt x hx; omega) fun x hx => ⟨?_, rfl⟩) (by omega) hB (fun x hx hw0 => ?_) ?_
    · have e1 : x ≠ nx := fun e => hx (by rw [e]; exact hwf)
      have e2 : x ≠ nx + 34 := fun e => hx (by rw [e]; exact hwf2)
      (repeat (first | rw [qE] | rw [qF _ _ _ _ (by omega)]))
    · have := hfr x (by omega) (by rw [hw1o x (by omega)]; exact hw0)
      refine ⟨?_, this.2⟩
      (repeat (first | rw [qE] | rw [qF _ _ _ _ (by omega)]))
      rw [this.1]
      (repeat (first | rw [qE] | rw [qF _ _ _ _ (by omega)]))
    · rcases hlz with ⟨x, hx, hw⟩ | ⟨_, _, rfl, _, _, e⟩
      · exact .inl ⟨x, by simp only [in_note, hx, or_true], hw⟩
      · exact .inr ⟨e, by simp only [all_relogL, js, ju, List.all_nil, jt, Bool.and_self]⟩
theorem str_ok (hO : Clear O) (h : HeapIn o nx w B hs) (hw : hs.watch = false) (s : ByteArray) (hs1 : s.1.toList.length ≤ 65535) (hG : HGood hs) (hc : hs.pool.count < 65536) (hmade : hs.made < 4611686018427387904) (hn : hs.pool.sizes.length < n) :
    Got (oCall Try.prog [] O (n + 5) 6 [.pointer (some ⟨B.i, 0, none⟩), .string s] ⟨o, nx, lg⟩) (HTo o nx lg w B hs (strO hs s).1 (.tuple #[vv (strO hs s).2.1, .int .i64 (strO hs s).2.2])) := by
  cases hd : lookT hs.texts s with
  | some d => exact str_known hO h hw s hs1 hd
  | none => exact str_new hO h hw s hs1 hd hG hc hmade hn
end
end Go.Proofs.Ythnlkahgmbadoaa
