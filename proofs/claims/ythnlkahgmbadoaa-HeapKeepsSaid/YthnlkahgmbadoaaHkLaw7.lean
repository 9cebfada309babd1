/- HeapKeeps: the range over what is there. -/
import Derived.Test.YthnlkahgmbadoaaHkLaw6
namespace Go.Proofs.Ythnlkahgmbadoaa
open Go.RowKit
set_option linter.unusedSimpArgs false
set_option linter.unusedVariables false
set_option maxRecDepth 100000

section
variable {zs : List (List Value)} {L : HkB} {oa : Option Addr} {cnt i : Nat} {e : Tr Value} {o : Tr AObj} {nx : Nat} {lg : List Nat} {w : Nat → Nat} {B : HB} {hs : HS} {es : List MapEntry} {c : Nat} {sl : Value} {ls : List VV} {k a b c' n : Int} {s : ByteArray} {v : VV} {p mn it : Nat} {seen : List Nat}
/-- something beside the law's things is turned -/
theorem HkIn.moved (h : HkIn zs L cnt o nx w B hs es c sl ls) {o' : Tr AObj} {nx' : Nat} (hn : nx ≤ nx') (hk : ∀ x, x < nx → x ≠ mn → o'.get x = o.get x) (wn : w mn = 0) (n0 : 0 < mn) (nm : mn ≠ L.mw) (nb : mn ≠ L.b1) (nl : ∀ a k q, sl = .slice (some a) k q → a.block ≠ mn) : HkIn zs L cnt o' nx' w B hs es c sl ls :=
  ⟨h.heap.keep hn (fun x hx => Nat.lt_of_lt_of_le (h.heap.wlt x hx) hn) fun x hx => ⟨hk x (h.heap.wlt x hx) fun e => hx (by rw [e]; exact wn), rfl⟩, h.hB, h.K, h.w0, h.wm, h.w1, Nat.lt_of_lt_of_le h.ltm hn, Nat.lt_of_lt_of_le h.lt1 hn, h.m0, h.n0, h.ne, (hk 0 (by have := h.ltm; omega) (by omega)).trans h.row, (hk _ h.lt1 nb.symm).trans h.one, (hk _ h.ltm nm.symm).trans h.want, h.kv,
    h.lst.imp id fun ⟨j, a, b, c, d, e, f, g, l0⟩ => ⟨j, a, Nat.lt_of_lt_of_le b hn, c, d, e, f, (hk j b (nl _ _ _ a)).trans g, l0⟩, h.lsn⟩
theorem wt_nonneg : ∀ l : List MapEntry, 0 ≤ (l.map fun x => wtV x.key).sum
  | [] => by simp
  | x :: l => by
    have h1 : 0 ≤ wtV x.key := by
      unfold wtV
      split
      · unfold wtL
        split
        · split <;> decide
        · decide
      · decide
    have := wt_nonneg l
    simp only [List.map_cons, List.sum_cons]; omega
/-- the entries that were met -/
structure HkR (zs : List (List Value)) (L : HkB) (oa : Option Addr) (cnt i mn it : Nat) (w : Nat → Nat) (B : HB) (hs : HS) (es : List MapEntry) (c : Nat) (sl : Value) (ls : List VV) (seen : List Nat) (e : Tr Value) (o : Tr AObj) (nx : Nat) : Prop where
  M : HkIn zs L cnt o nx w B hs es c sl ls
  E : HkE zs.length L oa i sl e
  ltn : mn < nx
  wn : w mn = 0
  n0 : 0 < mn
  nm : mn ≠ L.mw
  nb : mn ≠ L.b1
  nl : ∀ a k q, sl = .slice (some a) k q → a.block ≠ mn
  num : ∃ (en : List MapEntry) (cn : Nat) (l : List Int), o.get mn = some (.map en cn) ∧ MapIs (Value.int .i64) en (l.map fun d => (d, .bool true)) ∧ ∀ (y : MapEntry) (a d : Int), y ∈ es → y.key = .agg #[.int .u8 a, .int .i64 d] → d ∈ l → y.born ∈ seen
  cnt : ∃ u : Int, e.get 19 = some (.int .i64 u) ∧ u + ((leftE es seen).map fun x => wtV x.key).sum = hs.pool.used ∧ 0 ≤ u
  g20 : e.get 20 = some (.map (some mn))
  gi : e.get 164 = some (.pointer (some ⟨it, 0, none⟩))
theorem perm_sum {l m : List Int} (h : l.Perm m) : l.sum = m.sum := by
  induction h with
  | nil => rfl
  | cons x _ ih => simp only [List.sum_cons, ih]
  | swap x y l => simp only [List.sum_cons]; omega
  | trans _ _ h1 h2 => exact h1.trans h2
theorem gotE {α : Type} {x : Option α} {a : α} (h : x = some a) : Got x fun r => r = a := ⟨a, h, rfl⟩
set_option maxHeartbeats 32000000 in
theorem hk_rest {Q : St → Prop} (M : HkIn zs L cnt o nx w B hs es c sl ls) (E : HkE zs.length L oa i sl e) (D : HkMid (opCells k a b c' n s) i v p o nx w hs e) (hp : ∀ q, p ≤ q → q ≠ L.mw) (hcnt : cnt ≤ 150) (hQ : ∀ e' H', HkSt zs L oa (cnt + 1) i e' H' → Q (.on, e', H')) :
    Holds Try.prog hkNt (sqR (sqR (sqR (sqR (sqR (hkB1 Try.f4)))))) e ⟨o, nx, lg⟩ Q := by
  show Holds _ _ (Code.seq (hkB2 Try.f4) (Code.seq _ (Code.seq _ (Code.seq (Code.seq _ (Code.block _ (Code.loop _))) _)))) _ _ _
  refine holds_seq (I := fun e h => HkSt zs L oa (cnt + 1) i e h) (holds_got hc14 mixed_ (by kernel_rfl) ((hk_switch M E D hp hcnt).mono ?_)) ?_
  · rintro _ ⟨e', H', rfl, h⟩
    exact h
  clear M E D hp
  rintro e1 _ ⟨o, nx, lg, w, B, hs, es, c, sl, ls, rfl, M, E⟩
  have g0 := E.g0; have g3 := E.g3; have g5 := E.g5; have g6 := E.g6; have g7 := E.g7; have g8 := E.g8
  refine holds_step hc14 mixed_ (by kernel_rfl) (fuel := 999) ?_
  repeat (first | with_reducible (first | refine n_on ?_ | refine n_seq ?_ | refine s_else ?_ | refine n_t ?_ | refine n_gt ?_ | refine d_t ?_ | refine n_nil ?_ | refine d_nil ?_ | refine n_block ?_ | refine n_skip ?_ | refine n_bon ?_ | refine n_bback ?_ | refine n_back ?_ | refine n_out ?_ | refine n_bout rfl ?_ | refine n_bfar rfl ?_ | refine n_ret ?_ | refine n_exit ?_ | refine n_label ?_ | refine n_scope ?_ | refine n_son ?_ | refine n_sback ?_) | (with_reducible (first | apply n_region | apply d_region); (simp only [JV, JU, JW, Nat.reduceAdd, Nat.zero_add]; exact rfl)) | (with_reducible (first | apply s_op | apply n_guard | apply n_cond | apply d_guard | apply d_op | apply n_fin | apply n_finb); (simp (maxDischargeDepth := 6) only [sy3.1, zY, qG, qP, qQ, qR, qS, qT, rowAt, ↓jg, ↓ji, Nat.reduceAdd, Nat.reduceEqDiff, ne_eq, jG, Nat.reduceLT, if_true, ite_true, Int.reduceLE, Int.reduceLT, Int.reduceEq, Int.reduceNeg, Int.reduceAdd, Nat.reduceSub, if_false, ite_false, fs_4.1, g0, g3, g5, kind_pure, kind_load, kind_fresh, kind_other, jg, ji, undef]; first | exact rfl | exact ⟨rfl, rfl, rfl, rfl⟩); try (with_reducible refine calmK_in ?_; decide +kernel)))
  refine holds_step hc14 mixed_ (by kernel_rfl) (fuel := 999) ?_
  repeat (first | with_reducible (first | refine n_on ?_ | refine n_seq ?_ | refine s_else ?_ | refine n_t ?_ | refine n_gt ?_ | refine d_t ?_ | refine n_nil ?_ | refine d_nil ?_ | refine n_block ?_ | refine n_skip ?_ | refine n_bon ?_ | refine n_bback ?_ | refine n_back ?_ | refine n_out ?_ | refine n_bout rfl ?_ | refine n_bfar rfl ?_ | refine n_ret ?_ | refine n_exit ?_ | refine n_label ?_ | refine n_scope ?_ | refine n_son ?_ | refine n_sback ?_) | (with_reducible (first | apply n_region | apply d_region); (simp only [JV, JU, JW, Nat.reduceAdd, Nat.zero_add]; exact rfl)) | (with_reducible (first | apply s_op | apply n_guard | apply n_cond | apply d_guard | apply d_op | apply n_fin | apply n_finb); (simp (maxDischargeDepth := 6) only [sy3.1, zY, qG, qP, qQ, qR, qS, qT, rowAt, ↓jg, ↓ji, Nat.reduceAdd, Nat.reduceEqDiff, ne_eq, jG, Nat.reduceLT, if_true, ite_true, Int.reduceLE, Int.reduceLT, Int.reduceEq, Int.reduceNeg, Int.reduceAdd, Nat.reduceSub, if_false, ite_false, fs_4.1, g0, g3, g5, kind_pure, kind_load, kind_fresh, kind_other, jg, ji, undef]; first | exact rfl | exact ⟨rfl, rfl, rfl, rfl⟩); try (with_reducible refine calmK_in ?_; decide +kernel)))
  have hwn : w (nx + 1) = 0 := by
    by_cases e : w (nx + 1) = 0
    · exact e
    · have := M.heap.wlt _ e; omega
  have hm1 := M.ltm; have hb1 := M.lt1
  have hnl : ∀ a k q, sl = .slice (some a) k q → a.block ≠ nx + 1 := fun a k q e => by
    rcases M.lst with ⟨_, h⟩ | ⟨j, h, hj, _⟩
    · rw [e] at h; cases h
    · rw [e] at h; cases h; show j ≠ nx + 1; omega
  obtain ⟨hent, hinj, hsum⟩ := want_entry M.kv M.K.good
  have htot : (es.map fun x => wtV x.key).sum = hs.pool.used := by rw [hsum]; exact M.K.sum
  have hle := M.K.good.pool.le
  have hbd := M.K.good.bound
  have hmx := M.K.max
  refine holds_seq (I := fun e h => ∃ seen o' nx' lg', h = (⟨o', nx', lg'⟩ : AHeap) ∧ HkR zs L oa (cnt + 1) i (nx + 1) (nx + 3) w B hs es c sl ls seen e o' nx' ∧ leftE es seen = []) ?_ ?_
  · refine holds_born (ts := 5) (m := L.mw) (ck := c) (es := es) (by simp only [qC, qD, qE, qF, Tr.get_nil, ne_eq, not_false_eq_true, Nat.reduceEqDiff, g5]) (by show Tr.get _ L.mw = _; (repeat (first | rw [qE] | rw [qF _ _ _ _ (by omega)])); exact M.want) fun hBo => ?_
    refine holds_range (call := oCall Try.prog [] O14 999) (fuel := 999) Try.underlying42 hc14 mixed_ (by kernel_rfl) (by decide) (by decide) (by kernel_rfl) (by kernel_rfl) (m := L.mw) (es := es) (ck := c) (by simp only [qC, qD, qE, qF, Tr.get_nil, ne_eq, not_false_eq_true, Nat.reduceEqDiff, g5]) (by show Tr.get _ L.mw = _; (repeat (first | rw [qE] | rw [qF _ _ _ _ (by omega)])); exact M.want) (fun seen e h => ∃ o' nx' lg', h = (⟨o', nx', lg'⟩ : AHeap) ∧ HkR zs L oa (cnt + 1) i (nx + 1) (nx + 3) w B hs es c sl ls seen e o' nx') ?_ ?_ ?_ ?_
    · refine ⟨_, nx + 4, _, rfl, ⟨M.more (by omega) fun x hx => by (repeat (first | rw [qE] | rw [qF _ _ _ _ (by omega)])), ⟨?_, ?_, ?_, ?_, ?_, ?_⟩, by omega, hwn, by omega, by omega, by omega, hnl, ⟨[], 0, [], by show Tr.get _ (nx + 1) = _; (repeat (first | rw [qE] | rw [qF _ _ _ _ (by omega)])), rfl, fun y a d _ _ h => by cases h⟩, ⟨0, ?_, ?_, Int.le_refl _⟩, ?_, ?_⟩⟩
      rotate_left 7
      · have e1 : leftE es [] = es := by unfold leftE; simp
        rw [e1, htot, Int.zero_add]
      all_goals simp only [qC, qD, qE, qF, Tr.get_nil, ne_eq, not_false_eq_true, Nat.reduceEqDiff, g0, g3, g5, g6, g7, g8]
    · rintro seen e3 _ ⟨o3, nx3, lg3, rfl, N⟩
      exact ⟨N.gi, N.M.want⟩
    · rintro seen e3 _ ⟨o3, nx3, lg3, rfl, N⟩ hl
      refine n_on ?_
      obtain ⟨u, u1, u2, u3⟩ := N.cnt
      refine ⟨seen, o3, nx3, lg3, rfl, ⟨N.M, ⟨?_, ?_, ?_, ?_, ?_, ?_⟩, N.ltn, N.wn, N.n0, N.nm, N.nb, N.nl, N.num, ⟨u, ?_, u2, u3⟩, ?_, ?_⟩, hl⟩
      all_goals simp only [qC, qD, qE, qF, Tr.get_nil, ne_eq, not_false_eq_true, Nat.reduceEqDiff, N.E.g0, N.E.g3, N.E.g5, N.E.g6, N.E.g7, N.E.g8, N.g20, N.gi, u1]
    · rintro seen e3 _ x ⟨o3, nx3, lg3, rfl, N⟩ hx
      have hxm := (List.mem_filter.1 hx).1
      have hxs : x.born ∉ seen := by
        have := (List.mem_filter.1 hx).2
        intro h
        rw [List.contains_iff_mem.2 h] at this
        cases this
      obtain ⟨q, hq, ek, ev⟩ := hent x hxm
      obtain ⟨en, cn, l, hen, hmn, hold⟩ := N.num
      obtain ⟨u, u1, u2, u3⟩ := N.cnt
      have hperm := left_perm hBo.2 hx
      have hs2 := perm_sum (hperm.map fun x => wtV x.key)
      simp only [List.map_cons, List.sum_cons] at hs2
      have hs3 := wt_nonneg (leftE es (seen ++ [x.born]))
      have hwt : wtV x.key = if q.2.kind = 5 then 4 else 1 := by rw [ek]; rfl
      have hdl : q.1 ∉ l := fun h => hxs (hold x _ q.1 hxm ek h)
      have hfk : findK q.1 (l.map fun d => (d, (.bool true : Value))) 0 = none := by
        rcases find_mem q.1 (fun _ => .bool true) l 0 with ⟨_, h⟩ | ⟨h, _⟩
        · exact h
        · exact absurd h hdl
      have hlk : ∀ H : AHeap, H.get (nx + 1) = some (.map en cn) → aLookup Try.prog 36 (.map (some (nx + 1))) (.int .i64 q.1) false H = _ := fun H hg => aLookup_by key_i64 Try.underlying36 (show zeroOf Try.prog 4 = some (.bool false) by kernel_rfl) hg hmn q.1 false
      rw [hfk] at hlk
      obtain ⟨en', cn', hput, hmn'⟩ := map_put key_i64 Try.underlying36 hmn (nx + 1) cn q.1 (.bool true)
      rw [put_noted, if_neg hdl] at hmn'
      have k3 := N.E.g3; have k7 := N.E.g7; have k20 := N.g20
      have lt2 := N.ltn
      have ltb := N.M.lt1
      have hone := N.M.one
      obtain ⟨f1, f2, f3⟩ := N.M.K.tells hq
      rw [ek, ev]
      dsimp only
      repeat (first | with_reducible (first | refine n_on ?_ | refine n_seq ?_ | refine s_else ?_ | refine n_t ?_ | refine n_gt ?_ | refine d_t ?_ | refine n_nil ?_ | refine d_nil ?_ | refine n_block ?_ | refine n_skip ?_ | refine n_bon ?_ | refine n_bback ?_ | refine n_back ?_ | refine n_out ?_ | refine n_bout rfl ?_ | refine n_bfar rfl ?_ | refine n_ret ?_ | refine n_exit ?_ | refine n_label ?_ | refine n_scope ?_ | refine n_son ?_ | refine n_sback ?_) | (with_reducible (first | apply n_region | apply d_region); (simp only [JV, JU, JW, Nat.reduceAdd, Nat.zero_add]; exact rfl)) | (with_reducible (first | apply s_op | apply n_guard | apply n_cond | apply d_guard | apply d_op | apply n_fin | apply n_finb); (simp (maxDischargeDepth := 6) only [sy3.1, zY, qG, qP, qQ, qR, qS, qT, rowAt, ↓jg, ↓ji, Nat.reduceAdd, Nat.reduceEqDiff, ne_eq, jG, Nat.reduceLT, if_true, ite_true, Int.reduceLE, Int.reduceLT, Int.reduceEq, Int.reduceNeg, Int.reduceAdd, Nat.reduceSub, if_false, ite_false, fs_4.1, k3, kind_pure, kind_load, kind_fresh, kind_other, jg, ji, undef]; first | exact rfl | exact ⟨rfl, rfl, rfl, rfl⟩); try (with_reducible refine calmK_in ?_; decide +kernel)))
      refine s_nil ?_
      dsimp only
      repeat (first | with_reducible (first | refine n_on ?_ | refine n_seq ?_ | refine s_else ?_ | refine n_t ?_ | refine n_gt ?_ | refine d_t ?_ | refine n_nil ?_ | refine d_nil ?_ | refine n_block ?_ | refine n_skip ?_ | refine n_bon ?_ | refine n_bback ?_ | refine n_back ?_ | refine n_out ?_ | refine n_bout rfl ?_ | refine n_bfar rfl ?_ | refine n_ret ?_ | refine n_exit ?_ | refine n_label ?_ | refine n_scope ?_ | refine n_son ?_ | refine n_sback ?_) | (with_reducible (first | apply n_region | apply d_region); (simp only [JV, JU, JW, Nat.reduceAdd, Nat.zero_add]; exact rfl)) | (with_reducible (first | apply s_op | apply n_guard | apply n_cond | apply d_guard | apply d_op | apply n_fin | apply n_finb); (simp (maxDischargeDepth := 6) only [sy3.1, zY, qG, qP, qQ, qR, qS, qT, rowAt, ↓jg, ↓ji, Nat.reduceAdd, Nat.reduceEqDiff, ne_eq, jG, Nat.reduceLT, if_true, ite_true, Int.reduceLE, Int.reduceLT, Int.reduceEq, Int.reduceNeg, Int.reduceAdd, Nat.reduceSub, if_false, ite_false, fs_4.1, k3, kind_pure, kind_load, kind_fresh, kind_other, jg, ji, undef]; first | exact rfl | exact ⟨rfl, rfl, rfl, rfl⟩); try (with_reducible refine calmK_in ?_; decide +kernel)))
      refine s_do _ (by
        simp (maxDischargeDepth := 6) only [sy3.1, zY, qG, qP, qQ, qR, qS, qT, rowAt, ↓jg, ↓ji, Nat.reduceAdd, Nat.reduceEqDiff, ne_eq, jG, Nat.reduceLT, if_true, ite_true, Int.reduceLE, Int.reduceLT, Int.reduceEq, Int.reduceNeg, Int.reduceAdd, Nat.reduceSub, if_false, ite_false, fs_4.1, k3, ← N.M.hB]
        refine gotE (load_ok (n := 995) clear14 (N.M.heap.more (nx' := _) ?_ ?_) (q.2.kind, q.1))
        · omega
        · intro x hx
          (repeat (first | rw [qE] | rw [qF _ _ _ _ (by omega)]))) ?_
      rintro _ _ heq
      cases heq
      have hu1 : IntKind.i64.wrap (u + 1) = u + 1 := wrap_small _ (by omega) (by rw [hwt] at hs2; split at hs2 <;> omega)
      have hdd : decide (numOf q.2 = numOf q.2) = true := decide_eq_true rfl
      have hsome : (findO hs (q.2.kind, q.1)).isSome = true := by rw [f1]; rfl
      by_cases h5 : q.2.kind = 5
      · have f3 := f3 h5
        rw [if_pos h5] at hwt
        have hu4 : IntKind.i64.wrap (u + 1 + 3) = u + 4 := by rw [wrap_small _ (by omega) (by omega)]; omega
        repeat (first | with_reducible (first | refine n_on ?_ | refine n_seq ?_ | refine s_else ?_ | refine n_t ?_ | refine n_gt ?_ | refine d_t ?_ | refine n_nil ?_ | refine d_nil ?_ | refine n_block ?_ | refine n_skip ?_ | refine n_bon ?_ | refine n_bback ?_ | refine n_back ?_ | refine n_out ?_ | refine n_bout rfl ?_ | refine n_bfar rfl ?_ | refine n_ret ?_ | refine n_exit ?_ | refine n_label ?_ | refine n_scope ?_ | refine n_son ?_ | refine n_sback ?_) | (with_reducible (first | apply n_region | apply d_region); (simp only [JV, JU, JW, Nat.reduceAdd, Nat.zero_add]; exact rfl)) | (with_reducible (first | apply s_op | apply n_guard | apply n_cond | apply d_guard | apply d_op | apply n_fin | apply n_finb); (simp (maxDischargeDepth := 6) only [sy3.1, zY, qG, qP, qQ, qR, qS, qT, rowAt, ↓jg, ↓ji, Nat.reduceAdd, Nat.reduceEqDiff, ne_eq, jG, Nat.reduceLT, if_true, ite_true, Int.reduceLE, Int.reduceLT, Int.reduceEq, Int.reduceNeg, Int.reduceAdd, Nat.reduceSub, if_false, ite_false, fs_4.1, k3, vv, u1, hu1, decide_eq_true h5, k7, hone, ltb, kind_pure, kind_load, kind_fresh, kind_other, jg, ji, undef]; first | exact rfl | exact ⟨rfl, rfl, rfl, rfl⟩); try (with_reducible refine calmK_in ?_; decide +kernel)))
        refine s_do _ (by
          simp (maxDischargeDepth := 6) only [sy3.1, zY, qG, qP, qQ, qR, qS, qT, rowAt, ↓jg, ↓ji, Nat.reduceAdd, Nat.reduceEqDiff, ne_eq, jG, Nat.reduceLT, if_true, ite_true, Int.reduceLE, Int.reduceLT, Int.reduceEq, Int.reduceNeg, Int.reduceAdd, Nat.reduceSub, if_false, ite_false, fs_4.1, k3, k7, hone, ltb, ← N.M.hB]
          refine gotE (hget_ok (n := 995) clear14 (N.M.heap.more (nx' := _) ?_ ?_) (q.2.kind, q.1) (3, 1))
          · omega
          · intro x hx
            (repeat (first | rw [qE] | rw [qF _ _ _ _ (by omega)]))) ?_
        rintro _ _ heq
        cases heq
        repeat (first | with_reducible (first | refine n_on ?_ | refine n_seq ?_ | refine s_else ?_ | refine n_t ?_ | refine n_gt ?_ | refine d_t ?_ | refine n_nil ?_ | refine d_nil ?_ | refine n_block ?_ | refine n_skip ?_ | refine n_bon ?_ | refine n_bback ?_ | refine n_back ?_ | refine n_out ?_ | refine n_bout rfl ?_ | refine n_bfar rfl ?_ | refine n_ret ?_ | refine n_exit ?_ | refine n_label ?_ | refine n_scope ?_ | refine n_son ?_ | refine n_sback ?_) | (with_reducible (first | apply n_region | apply d_region); (simp only [JV, JU, JW, Nat.reduceAdd, Nat.zero_add]; exact rfl)) | (with_reducible (first | apply s_op | apply n_guard | apply n_cond | apply d_guard | apply d_op | apply n_fin | apply n_finb); (simp (maxDischargeDepth := 6) only [sy3.1, zY, qG, qP, qQ, qR, qS, qT, rowAt, ↓jg, ↓ji, Nat.reduceAdd, Nat.reduceEqDiff, ne_eq, jG, Nat.reduceLT, if_true, ite_true, Int.reduceLE, Int.reduceLT, Int.reduceEq, Int.reduceNeg, Int.reduceAdd, Nat.reduceSub, if_false, ite_false, fs_4.1, k3, vv, u1, hu1, hu4, hdd, f3, k20, hen, hlk, lt2, kind_pure, kind_load, kind_fresh, kind_other, jg, ji, undef]; first | exact rfl | exact ⟨rfl, rfl, rfl, rfl⟩); try (with_reducible refine calmK_in ?_; decide +kernel)))
        refine s_do _ (by
          simp (maxDischargeDepth := 6) only [sy3.1, zY, qG, qP, qQ, qR, qS, qT, rowAt, ↓jg, ↓ji, Nat.reduceAdd, Nat.reduceEqDiff, ne_eq, jG, Nat.reduceLT, if_true, ite_true, Int.reduceLE, Int.reduceLT, Int.reduceEq, Int.reduceNeg, Int.reduceAdd, Nat.reduceSub, if_false, ite_false, fs_4.1, k3, ← N.M.hB]
          refine gotE (has_ok (n := 996) clear14 (N.M.heap.more (nx' := _) ?_ ?_) (q.2.kind, q.1))
          · omega
          · intro x hx
            (repeat (first | rw [qE] | rw [qF _ _ _ _ (by omega)]))) ?_
        rintro _ _ heq
        cases heq
        rw [hsome]
        repeat (first | with_reducible (first | refine n_on ?_ | refine n_seq ?_ | refine s_else ?_ | refine n_t ?_ | refine n_gt ?_ | refine d_t ?_ | refine n_nil ?_ | refine d_nil ?_ | refine n_block ?_ | refine n_skip ?_ | refine n_bon ?_ | refine n_bback ?_ | refine n_back ?_ | refine n_out ?_ | refine n_bout rfl ?_ | refine n_bfar rfl ?_ | refine n_ret ?_ | refine n_exit ?_ | refine n_label ?_ | refine n_scope ?_ | refine n_son ?_ | refine n_sback ?_) | (with_reducible (first | apply n_region | apply d_region); (simp only [JV, JU, JW, Nat.reduceAdd, Nat.zero_add]; exact rfl)) | (with_reducible (first | apply s_op | apply n_guard | apply n_cond | apply d_guard | apply d_op | apply n_fin | apply n_finb); (simp (maxDischargeDepth := 6) only [sy3.1, zY, qG, qP, qQ, qR, qS, qT, rowAt, ↓jg, ↓ji, Nat.reduceAdd, Nat.reduceEqDiff, ne_eq, jG, Nat.reduceLT, if_true, ite_true, Int.reduceLE, Int.reduceLT, Int.reduceEq, Int.reduceNeg, Int.reduceAdd, Nat.reduceSub, if_false, ite_false, fs_4.1, k3, k20, hen, hlk, lt2, hput, kind_pure, kind_load, kind_fresh, kind_other, jg, ji, undef]; first | exact rfl | exact ⟨rfl, rfl, rfl, rfl⟩); try (with_reducible refine calmK_in ?_; decide +kernel)))
        refine ⟨_, _, rfl, _, nx3 + 45, _, rfl, ⟨N.M.moved (mn := nx + 1) (by omega) (fun y hy hym => ?_) N.wn N.n0 N.nm N.nb N.nl, ⟨?_, ?_, ?_, ?_, ?_, ?_⟩, by omega, N.wn, N.n0, N.nm, N.nb, N.nl, ⟨en', cn', l ++ [q.1], ?_, hmn', fun y a d hy hd hdm => ?_⟩, ⟨u + 4, ?_, ?_, by omega⟩, ?_, ?_⟩⟩
        · (repeat (first | rw [qE] | rw [qF _ _ _ _ (by omega)]))
        rotate_left 6
        · (repeat (first | rw [qE] | rw [qF _ _ _ _ (by omega)]))
        · rcases List.mem_append.1 hdm with h | h
          · exact List.mem_append_left _ (hold y a d hy hd h)
          · simp only [List.mem_singleton] at h
            subst h
            rw [hinj y hy x hxm a _ _ hd ek]
            simp
        rotate_left 1
        · omega
        all_goals simp only [qC, qD, qE, qF, Tr.get_nil, ne_eq, not_false_eq_true, Nat.reduceEqDiff, N.E.g0, N.E.g3, N.E.g5, N.E.g6, N.E.g7, N.E.g8, N.g20, N.gi, u1]
      · have f2 := f2 h5
        rw [if_neg h5] at hwt
        repeat (first | with_reducible (first | refine n_on ?_ | refine n_seq ?_ | refine s_else ?_ | refine n_t ?_ | refine n_gt ?_ | refine d_t ?_ | refine n_nil ?_ | refine d_nil ?_ | refine n_block ?_ | refine n_skip ?_ | refine n_bon ?_ | refine n_bback ?_ | refine n_back ?_ | refine n_out ?_ | refine n_bout rfl ?_ | refine n_bfar rfl ?_ | refine n_ret ?_ | refine n_exit ?_ | refine n_label ?_ | refine n_scope ?_ | refine n_son ?_ | refine n_sback ?_) | (with_reducible (first | apply n_region | apply d_region); (simp only [JV, JU, JW, Nat.reduceAdd, Nat.zero_add]; exact rfl)) | (with_reducible (first | apply s_op | apply n_guard | apply n_cond | apply d_guard | apply d_op | apply n_fin | apply n_finb); (simp (maxDischargeDepth := 6) only [sy3.1, zY, qG, qP, qQ, qR, qS, qT, rowAt, ↓jg, ↓ji, Nat.reduceAdd, Nat.reduceEqDiff, ne_eq, jG, Nat.reduceLT, if_true, ite_true, Int.reduceLE, Int.reduceLT, Int.reduceEq, Int.reduceNeg, Int.reduceAdd, Nat.reduceSub, if_false, ite_false, fs_4.1, k3, vv, u1, hu1, decide_eq_false h5, hdd, f2, k20, hen, hlk, lt2, kind_pure, kind_load, kind_fresh, kind_other, jg, ji, undef]; first | exact rfl | exact ⟨rfl, rfl, rfl, rfl⟩); try (with_reducible refine calmK_in ?_; decide +kernel)))
        refine s_do _ (by
          simp (maxDischargeDepth := 6) only [sy3.1, zY, qG, qP, qQ, qR, qS, qT, rowAt, ↓jg, ↓ji, Nat.reduceAdd, Nat.reduceEqDiff, ne_eq, jG, Nat.reduceLT, if_true, ite_true, Int.reduceLE, Int.reduceLT, Int.reduceEq, Int.reduceNeg, Int.reduceAdd, Nat.reduceSub, if_false, ite_false, fs_4.1, k3, ← N.M.hB]
          refine gotE (has_ok (n := 996) clear14 (N.M.heap.more (nx' := _) ?_ ?_) (q.2.kind, q.1))
          · omega
          · intro x hx
            (repeat (first | rw [qE] | rw [qF _ _ _ _ (by omega)]))) ?_
        rintro _ _ heq
        cases heq
        rw [hsome]
        repeat (first | with_reducible (first | refine n_on ?_ | refine n_seq ?_ | refine s_else ?_ | refine n_t ?_ | refine n_gt ?_ | refine d_t ?_ | refine n_nil ?_ | refine d_nil ?_ | refine n_block ?_ | refine n_skip ?_ | refine n_bon ?_ | refine n_bback ?_ | refine n_back ?_ | refine n_out ?_ | refine n_bout rfl ?_ | refine n_bfar rfl ?_ | refine n_ret ?_ | refine n_exit ?_ | refine n_label ?_ | refine n_scope ?_ | refine n_son ?_ | refine n_sback ?_) | (with_reducible (first | apply n_region | apply d_region); (simp only [JV, JU, JW, Nat.reduceAdd, Nat.zero_add]; exact rfl)) | (with_reducible (first | apply s_op | apply n_guard | apply n_cond | apply d_guard | apply d_op | apply n_fin | apply n_finb); (simp (maxDischargeDepth := 6) only [sy3.1, zY, qG, qP, qQ, qR, qS, qT, rowAt, ↓jg, ↓ji, Nat.reduceAdd, Nat.reduceEqDiff, ne_eq, jG, Nat.reduceLT, if_true, ite_true, Int.reduceLE, Int.reduceLT, Int.reduceEq, Int.reduceNeg, Int.reduceAdd, Nat.reduceSub, if_false, ite_false, fs_4.1, k3, k20, hen, hlk, lt2, hput, kind_pure, kind_load, kind_fresh, kind_other, jg, ji, undef]; first | exact rfl | exact ⟨rfl, rfl, rfl, rfl⟩); try (with_reducible refine calmK_in ?_; decide +kernel)))
        refine ⟨_, _, rfl, _, nx3 + 37, _, rfl, ⟨N.M.moved (mn := nx + 1) (by omega) (fun y hy hym => ?_) N.wn N.n0 N.nm N.nb N.nl, ⟨?_, ?_, ?_, ?_, ?_, ?_⟩, by omega, N.wn, N.n0, N.nm, N.nb, N.nl, ⟨en', cn', l ++ [q.1], ?_, hmn', fun y a d hy hd hdm => ?_⟩, ⟨u + 1, ?_, ?_, by omega⟩, ?_, ?_⟩⟩
        · (repeat (first | rw [qE] | rw [qF _ _ _ _ (by omega)]))
        rotate_left 6
        · (repeat (first | rw [qE] | rw [qF _ _ _ _ (by omega)]))
        · rcases List.mem_append.1 hdm with h | h
          · exact List.mem_append_left _ (hold y a d hy hd h)
          · simp only [List.mem_singleton] at h
            subst h
            rw [hinj y hy x hxm a _ _ hd ek]
            simp
        rotate_left 1
        · omega
        all_goals simp only [qC, qD, qE, qF, Tr.get_nil, ne_eq, not_false_eq_true, Nat.reduceEqDiff, N.E.g0, N.E.g3, N.E.g5, N.E.g6, N.E.g7, N.E.g8, N.g20, N.gi, u1]
  · rintro e4 _ ⟨seen, o4, nx4, lg4, rfl, N, hl⟩
    obtain ⟨u, u1, u2, u3⟩ := N.cnt
    rw [hl] at u2
    have hu : u = hs.pool.used := by simpa using u2
    rw [hu] at u1
    have k3 := N.E.g3; have k5 := N.E.g5
    have hUs := fun (q : Nat) (lg : List Nat) => used_ok (n := 996) (lg := lg) clear14 (N.M.heap.more (nx' := nx4 + q) (by omega) fun _ _ => rfl)
    have hMx := fun (q : Nat) (lg : List Nat) => max_ok (n := 997) (lg := lg) clear14 (N.M.heap.more (nx' := nx4 + q) (by omega) fun _ _ => rfl)
    have hcn := M.K.good.cnt
    have hcc := M.K.count
    have hszz := M.K.sizes
    have hOb := fun (q : Nat) (lg : List Nat) => objs_ok (n := 998) (lg := lg) (N.M.heap.more (nx' := nx4 + q) (by omega) fun _ _ => rfl) M.K.good (by omega) (by omega)
    simp only [N.M.hB] at hUs hMx hOb
    have d1 : decide (hs.pool.used = hs.pool.used) = true := decide_eq_true rfl
    have d2 : decide (hs.max < hs.pool.used) = false := decide_eq_false (by omega)
    have hel : es.length = hs.objs.length := by have := M.kv.len; simp only [List.length_map] at this; omega
    have hwant := N.M.want
    have hml := N.M.ltm
    have hlm : ∀ (H : AHeap) ty c', H.get L.mw = some (.map es c) → _ := fun H ty c' hg => lenV_mapS (ty := ty) (c := c') Try.underlying42 hg
    rw [hel] at hlm
    have hlo := objsO_len hs
    refine holds_got hc14 mixed_ (by kernel_rfl) (fuel := 999) ?_
    refine n_seq ?_
    cases ho : objsO hs with
    | nil =>
      rw [ho] at hOb hlo
      have h0 : hs.objs.length = 0 := hlo.symm
      rw [h0] at hlm
      repeat (first | with_reducible (first | refine n_on ?_ | refine n_seq ?_ | refine s_else ?_ | refine n_t ?_ | refine n_gt ?_ | refine d_t ?_ | refine n_nil ?_ | refine d_nil ?_ | refine n_block ?_ | refine n_skip ?_ | refine n_bon ?_ | refine n_bback ?_ | refine n_back ?_ | refine n_out ?_ | refine n_bout rfl ?_ | refine n_bfar rfl ?_ | refine n_ret ?_ | refine n_exit ?_ | refine n_label ?_ | refine n_scope ?_ | refine n_son ?_ | refine n_sback ?_) | (with_reducible (first | apply n_region | apply d_region); (simp only [JV, JU, JW, Nat.reduceAdd, Nat.zero_add]; exact rfl)) | (with_reducible (first | apply s_op | apply n_guard | apply n_cond | apply d_guard | apply d_op | apply n_fin | apply n_finb); (simp (maxDischargeDepth := 6) only [sy3.1, zY, qG, qP, qQ, qR, qS, qT, rowAt, ↓jg, ↓ji, Nat.reduceAdd, Nat.reduceEqDiff, ne_eq, jG, Nat.reduceLT, if_true, ite_true, Int.reduceLE, Int.reduceLT, Int.reduceEq, Int.reduceNeg, Int.reduceAdd, Nat.reduceSub, if_false, ite_false, fs_4.1, k3, k5, u1, hUs, hMx, hOb, resV, resH, d1, d2, hwant, hlm, hml, kind_pure, kind_load, kind_fresh, kind_other, jg, ji, undef]; first | exact rfl | exact ⟨rfl, rfl, rfl, rfl⟩); try (with_reducible refine calmK_in ?_; decide +kernel)))
      refine hQ _ _ ⟨_, _, _, _, _, _, _, _, _, _, rfl, N.M.more (by omega) fun _ _ => rfl, ⟨?_, ?_, ?_, ?_, ?_, ?_⟩⟩
      all_goals simp only [qC, qD, qE, qF, Tr.get_nil, ne_eq, not_false_eq_true, Nat.reduceEqDiff, N.E.g0, N.E.g3, N.E.g5, N.E.g6, N.E.g7, N.E.g8]
    | cons p0 l0 =>
      rw [ho] at hOb hlo
      have h0 : l0.length + 1 = hs.objs.length := hlo
      rw [← h0] at hlm
      repeat (first | with_reducible (first | refine n_on ?_ | refine n_seq ?_ | refine s_else ?_ | refine n_t ?_ | refine n_gt ?_ | refine d_t ?_ | refine n_nil ?_ | refine d_nil ?_ | refine n_block ?_ | refine n_skip ?_ | refine n_bon ?_ | refine n_bback ?_ | refine n_back ?_ | refine n_out ?_ | refine n_bout rfl ?_ | refine n_bfar rfl ?_ | refine n_ret ?_ | refine n_exit ?_ | refine n_label ?_ | refine n_scope ?_ | refine n_son ?_ | refine n_sback ?_) | (with_reducible (first | apply n_region | apply d_region); (simp only [JV, JU, JW, Nat.reduceAdd, Nat.zero_add]; exact rfl)) | (with_reducible (first | apply s_op | apply n_guard | apply n_cond | apply d_guard | apply d_op | apply n_fin | apply n_finb); (simp (maxDischargeDepth := 6) only [sy3.1, zY, qG, qP, qQ, qR, qS, qT, rowAt, ↓jg, ↓ji, Nat.reduceAdd, Nat.reduceEqDiff, ne_eq, jG, Nat.reduceLT, if_true, ite_true, Int.reduceLE, Int.reduceLT, Int.reduceEq, Int.reduceNeg, Int.reduceAdd, Nat.reduceSub, if_false, ite_false, fs_4.1, k3, k5, u1, hUs, hMx, hOb, resV, resH, AHeap.add, d1, d2, hwant, hlm, hml, kind_pure, kind_load, kind_fresh, kind_other, jg, ji, undef]; first | exact rfl | exact ⟨rfl, rfl, rfl, rfl⟩); try (with_reducible refine calmK_in ?_; decide +kernel)))
      refine hQ _ _ ⟨_, _, _, _, _, _, _, _, _, _, rfl, N.M.more (by omega) fun x hx => ?_, ⟨?_, ?_, ?_, ?_, ?_, ?_⟩⟩
      · (repeat (first | rw [qE] | rw [qF _ _ _ _ (by omega)]))
      all_goals simp only [qC, qD, qE, qF, Tr.get_nil, ne_eq, not_false_eq_true, Nat.reduceEqDiff, N.E.g0, N.E.g3, N.E.g5, N.E.g6, N.E.g7, N.E.g8]
end
end Go.Proofs.Ythnlkahgmbadoaa
