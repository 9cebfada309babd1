/- Heap: Func and Cells, on the abstract machine. -/
import Derived.Test.YtckahbnkdiamjaaHmFunc
namespace Go.Proofs.Ytckahbnkdiamjaa
open Go.RowKit
set_option linter.unusedSimpArgs false
set_option linter.unusedVariables false
set_option maxRecDepth 100000

def funcOb (p : Int) (cells : List VV) : Ob := ⟨6, 0, ⟨#[]⟩, [], (0, 0), p, cells, (0, 0)⟩
def funcO (hs : HS) (p : Int) (cells : List VV) : HS × VV × Int := if p < 0 ∨ 60 < cells.length ∨ cells.any (badB hs) = true then (hs, (0, 0), 150) else addO hs (funcOb p cells) (2 + Int.ofNat cells.length)
section
variable {O : Helps} {n : Nat} {o : Tr AObj} {nx : Nat} {lg : List Nat} {w : Nat → Nat} {B : HB} {hs : HS}
set_option maxHeartbeats 8000000 in
theorem contains_bad (hO : Clear O) (h : HeapIn o nx w B hs) {hb e z : Nat} (hp : o.get hb = some (.row [.pointer (some ⟨B.i, 0, none⟩)] e z true)) (hlt : hb < nx) {a : Option Nat} {l : List VV} {cc : Nat} (hv : ValsIn o nx a l) (hl : l.length ≤ 1000000) (hn : l.length < n) :
    oCall Try.prog [] O (n + 6) 71 [.slice (slA a) l.length cc, .func (.func 70) #[] #[.pointer (some ⟨hb, 0, none⟩)]] ⟨o, nx, lg⟩ = some (.bool (l.any (badB hs)), ⟨o, nx, lg⟩) := by
  refine of_got ?_
  have hix := fun (q : Nat) (lg : List Nat) => index_bad (n := n) (lg := lg) (cc := cc) hO (h.more (nx' := nx + q) (by omega) fun _ _ => rfl) hp (by omega) (hv.keep (by omega) fun _ _ => rfl) hl hn
  rw [← badAt_any hs l 0]
  cases hb2 : badAt hs l 0 with
  | none =>
    rw [hb2] at hix
    have hd : decide (0 ≤ ixV none) = false := by decide
    rw [y_fn (rs := [.tmp 4]) (hO _ (by decide)) Try.func71 rfl (by kernel_rfl) rfl rfl]
    repeat (first | with_reducible (first | refine n_on ?_ | refine n_seq ?_ | refine s_else ?_ | refine n_t ?_ | refine n_gt ?_ | refine d_t ?_ | refine n_nil ?_ | refine d_nil ?_ | refine n_block ?_ | refine n_skip ?_ | refine n_bon ?_ | refine n_bback ?_ | refine n_back ?_ | refine n_out ?_ | refine n_bout rfl ?_ | refine n_bfar rfl ?_ | refine n_ret ?_ | refine n_exit ?_ | refine n_label ?_ | refine n_scope ?_ | refine n_son ?_ | refine n_sback ?_) | (with_reducible (first | apply n_region | apply d_region); (simp only [JV, JU, JW, Nat.reduceAdd, Nat.zero_add]; exact rfl)) | (with_reducible (first | apply s_op | apply n_guard | apply n_cond | apply d_guard | apply d_op | apply n_fin | apply n_finb); (simp (maxDischargeDepth := 6) only [sy3.1, zY, qG, qP, qQ, qR, qS, qT, rowAt, ↓jg, ↓ji, Nat.reduceAdd, Nat.reduceEqDiff, ne_eq, jG, Nat.reduceLT, if_true, ite_true, Int.reduceLE, Int.reduceLT, Int.reduceEq, Int.reduceNeg, Int.reduceAdd, Nat.reduceSub, if_false, ite_false, fs_71.1, hix, hd, kind_pure, kind_load, kind_fresh, kind_other, jg, ji, undef]; first | exact rfl | exact ⟨rfl, rfl, rfl, rfl⟩); try (with_reducible refine calmK_in ?_; decide +kernel)))
    try exact Ja (by rfl) (by rfl)
  | some i =>
    rw [hb2] at hix
    have hd : decide (0 ≤ ixV (some i)) = true := decide_eq_true (by unfold ixV; simp only [Int.ofNat_eq_natCast]; omega)
    rw [y_fn (rs := [.tmp 4]) (hO _ (by decide)) Try.func71 rfl (by kernel_rfl) rfl rfl]
    repeat (first | with_reducible (first | refine n_on ?_ | refine n_seq ?_ | refine s_else ?_ | refine n_t ?_ | refine n_gt ?_ | refine d_t ?_ | refine n_nil ?_ | refine d_nil ?_ | refine n_block ?_ | refine n_skip ?_ | refine n_bon ?_ | refine n_bback ?_ | refine n_back ?_ | refine n_out ?_ | refine n_bout rfl ?_ | refine n_bfar rfl ?_ | refine n_ret ?_ | refine n_exit ?_ | refine n_label ?_ | refine n_scope ?_ | refine n_son ?_ | refine n_sback ?_) | (with_reducible (first | apply n_region | apply d_region); (simp only [JV, JU, JW, Nat.reduceAdd, Nat.zero_add]; exact rfl)) | (with_reducible (first | apply s_op | apply n_guard | apply n_cond | apply d_guard | apply d_op | apply n_fin | apply n_finb); (simp (maxDischargeDepth := 6) only [sy3.1, zY, qG, qP, qQ, qR, qS, qT, rowAt, ↓jg, ↓ji, Nat.reduceAdd, Nat.reduceEqDiff, ne_eq, jG, Nat.reduceLT, if_true, ite_true, Int.reduceLE, Int.reduceLT, Int.reduceEq, Int.reduceNeg, Int.reduceAdd, Nat.reduceSub, if_false, ite_false, fs_71.1, hix, hd, kind_pure, kind_load, kind_fresh, kind_other, jg, ji, undef]; first | exact rfl | exact ⟨rfl, rfl, rfl, rfl⟩); try (with_reducible refine calmK_in ?_; decide +kernel)))
    try exact Ja (by rfl) (by rfl)
set_option maxHeartbeats 8000000 in
theorem add_full (hO : Clear O) (h : HeapIn o nx w B hs) (hG : HGood hs) {bo : Nat} {size : Int} (h0 : 0 ≤ size) (hs2 : size < 1000000) (h1 : hs.max < hs.pool.used + size) :
    oCall Try.prog [] O (n + 4) 67 [.pointer (some ⟨B.i, 0, none⟩), .pointer (some ⟨bo, 0, none⟩), .int .i64 size] ⟨o, nx, lg⟩ = some (.tuple #[.agg #[.int .u8 0, .int .i64 0], .int .i64 152], ⟨o, nx, lg⟩) := by
  refine of_got ?_
  obtain ⟨z, hr⟩ := h.row
  have hi := h.lt
  have hP := hG.pool
  have hu0 := hP.used0
  have hle := hP.le
  have hbd := hG.bound
  have hmx := hG.max
  have hU := fun (X : AObj) (q : Nat) (lg : List Nat) => pused_ok (n := n + 1) (o := o.put nx (some X)) (nx := nx + q) (lg := lg) hO (h.pool.more (by omega) fun x hx => qF _ _ _ _ (by omega))
  have w0 : IntKind.i64.wrap (hs.pool.used + size) = hs.pool.used + size := wrap_small _ (by omega) (by omega)
  rw [y_fn (rs := [.cell 6 41, .tmp 7]) (hO _ (by decide)) Try.func67 rfl (by kernel_rfl) rfl rfl]
  repeat (first | with_reducible (first | refine n_on ?_ | refine n_seq ?_ | refine s_else ?_ | refine n_t ?_ | refine n_gt ?_ | refine d_t ?_ | refine n_nil ?_ | refine d_nil ?_ | refine n_block ?_ | refine n_skip ?_ | refine n_bon ?_ | refine n_bback ?_ | refine n_back ?_ | refine n_out ?_ | refine n_bout rfl ?_ | refine n_bfar rfl ?_ | refine n_ret ?_ | refine n_exit ?_ | refine n_label ?_ | refine n_scope ?_ | refine n_son ?_ | refine n_sback ?_) | (with_reducible (first | apply n_region | apply d_region); (simp only [JV, JU, JW, Nat.reduceAdd, Nat.zero_add]; exact rfl)) | (with_reducible (first | apply s_op | apply n_guard | apply n_cond | apply d_guard | apply d_op | apply n_fin | apply n_finb); (simp (maxDischargeDepth := 6) only [sy3.1, zY, qG, qP, qQ, qR, qS, qT, rowAt, ↓jg, ↓ji, Nat.reduceAdd, Nat.reduceEqDiff, ne_eq, jG, Nat.reduceLT, if_true, ite_true, Int.reduceLE, Int.reduceLT, Int.reduceEq, Int.reduceNeg, Int.reduceAdd, Nat.reduceSub, if_false, ite_false, fs_67.1, heapRow, hr, hi, hU, w0, decide_eq_true h1, kind_pure, kind_load, kind_fresh, kind_other, jg, ji, undef]; first | exact rfl | exact ⟨rfl, rfl, rfl, rfl⟩); try (with_reducible refine calmK_in ?_; decide +kernel)))
  try exact Ja (by simp only [all_relogL, js, ju, List.all_nil, jt, Bool.and_self]) (by rfl)
set_option maxHeartbeats 32000000 in
theorem func_ok (hO : Clear O) (h : HeapIn o nx w B hs) (hG : HGood hs) (p : Int) {a : Option Nat} {l : List VV} {cc : Nat} (hv : ValsIn o nx a l) (hcc : a = none → cc = 0) (hl : l.length ≤ 1000000) (hc : hs.pool.count < 65536) (hmade : hs.made < 4611686018427387904) (hn : hs.pool.sizes.length < n) (hn2 : l.length < n) :
    Got (oCall Try.prog [] O (n + 7) 43 [.pointer (some ⟨B.i, 0, none⟩), .int .i64 p, .slice (slA a) l.length cc] ⟨o, nx, lg⟩) (HTo o nx lg w B hs (funcO hs p l).1 (.tuple #[vv (funcO hs p l).2.1, .int .i64 (funcO hs p l).2.2])) := by
  obtain ⟨z, hr⟩ := h.row
  have hi := h.lt
  have hright := hright_ok (n := n + 5) (i := B.i) (m := B.ma) (p := B.p) (c0 := .int .i64 hs.max) (c3 := .map (some B.mt)) (c4 := .int .i64 hs.made) (c5 := .bool hs.watch) (c6 := .map (some B.mn)) (e := 125) (z := z) (own := true) hO
  have hcon := fun (Y : AObj) (q : Nat) (lg : List Nat) => contains_bad (n := n) (lg := lg) (cc := cc) (hb := nx) (e := 37) (z := 0) hO (more2 h (some (.row [.pointer (some ⟨B.i, 0, none⟩)] 37 0 true)) (some Y) (q + 1) (by omega)) (by (repeat (first | rw [qE] | rw [qF _ _ _ _ (by omega)]))) (by omega) (hv.keep (by omega) fun j e => by
    have : j < nx := by
      rcases hv with ⟨e2, _⟩ | ⟨_, _, e2, hj, _⟩
      · rw [e] at e2; cases e2
      · rw [e] at e2; cases e2; exact hj
    (repeat (first | rw [qE] | rw [qF _ _ _ _ (by omega)]))) hl hn2
  rw [y_fn (rs := [.cell 6 41, .tmp 7]) (hO _ (by decide)) Try.func43 rfl (by kernel_rfl) rfl rfl]
  by_cases h1 : p < 0
  · have e : funcO hs p l = (hs, (0, 0), 150) := by unfold funcO; rw [if_pos (.inl h1)]
    rw [e]
    repeat (first | with_reducible (first | refine n_on ?_ | refine n_seq ?_ | refine s_else ?_ | refine n_t ?_ | refine n_gt ?_ | refine d_t ?_ | refine n_nil ?_ | refine d_nil ?_ | refine n_block ?_ | refine n_skip ?_ | refine n_bon ?_ | refine n_bback ?_ | refine n_back ?_ | refine n_out ?_ | refine n_bout rfl ?_ | refine n_bfar rfl ?_ | refine n_ret ?_ | refine n_exit ?_ | refine n_label ?_ | refine n_scope ?_ | refine n_son ?_ | refine n_sback ?_) | (with_reducible (first | apply n_region | apply d_region); (simp only [JV, JU, JW, Nat.reduceAdd, Nat.zero_add]; exact rfl)) | (with_reducible (first | apply s_op | apply n_guard | apply n_cond | apply d_guard | apply d_op | apply n_fin | apply n_finb); (simp (maxDischargeDepth := 6) only [sy3.1, zY, qG, qP, qQ, qR, qS, qT, rowAt, ↓jg, ↓ji, Nat.reduceAdd, Nat.reduceEqDiff, ne_eq, jG, Nat.reduceLT, if_true, ite_true, Int.reduceLE, Int.reduceLT, Int.reduceEq, Int.reduceNeg, Int.reduceAdd, Nat.reduceSub, if_false, ite_false, fs_43.1, heapRow, hr, hi, hright, List.map_toArray, decide_eq_true h1, kind_pure, kind_load, kind_fresh, kind_other, jg, ji, undef]; first | exact rfl | exact ⟨rfl, rfl, rfl, rfl⟩); try (with_reducible refine calmK_in ?_; decide +kernel)))
    exact quiet_end (by simp only [all_relogL, js, ju, List.all_nil, jt, Bool.and_self]) (by rfl) (.same h _)
  have d1 := decide_eq_false h1
  by_cases h2 : 60 < l.length
  · have e : funcO hs p l = (hs, (0, 0), 150) := by unfold funcO; rw [if_pos (.inr (.inl h2))]
    rw [e]
    have d2 : decide (60 < Int.ofNat l.length) = true := decide_eq_true (by simp only [Int.ofNat_eq_natCast]; omega)
    repeat (first | with_reducible (first | refine n_on ?_ | refine n_seq ?_ | refine s_else ?_ | refine n_t ?_ | refine n_gt ?_ | refine d_t ?_ | refine n_nil ?_ | refine d_nil ?_ | refine n_block ?_ | refine n_skip ?_ | refine n_bon ?_ | refine n_bback ?_ | refine n_back ?_ | refine n_out ?_ | refine n_bout rfl ?_ | refine n_bfar rfl ?_ | refine n_ret ?_ | refine n_exit ?_ | refine n_label ?_ | refine n_scope ?_ | refine n_son ?_ | refine n_sback ?_) | (with_reducible (first | apply n_region | apply d_region); (simp only [JV, JU, JW, Nat.reduceAdd, Nat.zero_add]; exact rfl)) | (with_reducible (first | apply s_op | apply n_guard | apply n_cond | apply d_guard | apply d_op | apply n_fin | apply n_finb); (simp (maxDischargeDepth := 6) only [sy3.1, zY, qG, qP, qQ, qR, qS, qT, rowAt, ↓jg, ↓ji, Nat.reduceAdd, Nat.reduceEqDiff, ne_eq, jG, Nat.reduceLT, if_true, ite_true, Int.reduceLE, Int.reduceLT, Int.reduceEq, Int.reduceNeg, Int.reduceAdd, Nat.reduceSub, if_false, ite_false, fs_43.1, heapRow, hr, hi, hright, List.map_toArray, d1, d2, kind_pure, kind_load, kind_fresh, kind_other, jg, ji, undef]; first | exact rfl | exact ⟨rfl, rfl, rfl, rfl⟩); try (with_reducible refine calmK_in ?_; decide +kernel)))
    exact quiet_end (by simp only [all_relogL, js, ju, List.all_nil, jt, Bool.and_self]) (by rfl) (.same h _)
  have d2 : decide (60 < Int.ofNat l.length) = false := decide_eq_false (by simp only [Int.ofNat_eq_natCast]; omega)
  cases h3 : l.any (badB hs) with
  | true =>
    have e : funcO hs p l = (hs, (0, 0), 150) := by unfold funcO; rw [if_pos (.inr (.inr h3))]
    rw [e]
    rw [h3] at hcon
    repeat (first | with_reducible (first | refine n_on ?_ | refine n_seq ?_ | refine s_else ?_ | refine n_t ?_ | refine n_gt ?_ | refine d_t ?_ | refine n_nil ?_ | refine d_nil ?_ | refine n_block ?_ | refine n_skip ?_ | refine n_bon ?_ | refine n_bback ?_ | refine n_back ?_ | refine n_out ?_ | refine n_bout rfl ?_ | refine n_bfar rfl ?_ | refine n_ret ?_ | refine n_exit ?_ | refine n_label ?_ | refine n_scope ?_ | refine n_son ?_ | refine n_sback ?_) | (with_reducible (first | apply n_region | apply d_region); (simp only [JV, JU, JW, Nat.reduceAdd, Nat.zero_add]; exact rfl)) | (with_reducible (first | apply s_op | apply n_guard | apply n_cond | apply d_guard | apply d_op | apply n_fin | apply n_finb); (simp (maxDischargeDepth := 6) only [sy3.1, zY, qG, qP, qQ, qR, qS, qT, rowAt, ↓jg, ↓ji, Nat.reduceAdd, Nat.reduceEqDiff, ne_eq, jG, Nat.reduceLT, if_true, ite_true, Int.reduceLE, Int.reduceLT, Int.reduceEq, Int.reduceNeg, Int.reduceAdd, Nat.reduceSub, if_false, ite_false, fs_43.1, heapRow, hr, hi, hright, List.map_toArray, d1, d2, hcon, kind_pure, kind_load, kind_fresh, kind_other, jg, ji, undef]; first | exact rfl | exact ⟨rfl, rfl, rfl, rfl⟩); try (with_reducible refine calmK_in ?_; decide +kernel)))
    exact quiet_end (by simp only [all_relogL, js, ju, List.all_nil, jt, Bool.and_self]) (by rfl) (.same h _)
  | false =>
    have e : funcO hs p l = addO hs (funcOb p l) (2 + Int.ofNat l.length) := by
      unfold funcO
      rw [if_neg (fun h => h.elim h1 fun h => h.elim h2 fun h => by rw [h3] at h; cases h)]
    rw [e]
    rw [h3] at hcon
    repeat (first | with_reducible (first | refine n_on ?_ | refine n_seq ?_ | refine s_else ?_ | refine n_t ?_ | refine n_gt ?_ | refine d_t ?_ | refine n_nil ?_ | refine d_nil ?_ | refine n_block ?_ | refine n_skip ?_ | refine n_bon ?_ | refine n_bback ?_ | refine n_back ?_ | refine n_out ?_ | refine n_bout rfl ?_ | refine n_bfar rfl ?_ | refine n_ret ?_ | refine n_exit ?_ | refine n_label ?_ | refine n_scope ?_ | refine n_son ?_ | refine n_sback ?_) | (with_reducible (first | apply n_region | apply d_region); (simp only [JV, JU, JW, Nat.reduceAdd, Nat.zero_add]; exact rfl)) | (with_reducible (first | apply s_op | apply n_guard | apply n_cond | apply d_guard | apply d_op | apply n_fin | apply n_finb); (simp (maxDischargeDepth := 6) only [sy3.1, zY, qG, qP, qQ, qR, qS, qT, rowAt, ↓jg, ↓ji, Nat.reduceAdd, Nat.reduceEqDiff, ne_eq, jG, Nat.reduceLT, if_true, ite_true, Int.reduceLE, Int.reduceLT, Int.reduceEq, Int.reduceNeg, Int.reduceAdd, Nat.reduceSub, if_false, ite_false, fs_43.1, heapRow, hr, hi, hright, List.map_toArray, d1, d2, hcon, kind_pure, kind_load, kind_fresh, kind_other, jg, ji, undef]; first | exact rfl | exact ⟨rfl, rfl, rfl, rfl⟩); try (with_reducible refine calmK_in ?_; decide +kernel)))
    have halt : ∀ j, a = some j → j < nx := fun j e => by
      rcases hv with ⟨e2, _⟩ | ⟨_, _, e2, hj, _⟩
      · rw [e] at e2; cases e2
      · rw [e] at e2; cases e2; exact hj
    obtain ⟨k3, hk3, hk4⟩ : ∃ k3, k3 = cond a.isNone 2 3 ∧ (k3 = 2 ∨ k3 = 3) := ⟨_, rfl, by cases a <;> simp⟩
    rcases hk4 with rfl | rfl
    · refine d_do (CloneTo ((o.put nx (some (.row [.pointer (some ⟨B.i, 0, none⟩)] 37 0 true))).put (nx + 1) (some (.row [.int .u8 0, .int .i64 0] 41 0 true))) (nx + 34) [] a l) 2 (by
        simp (maxDischargeDepth := 6) only [sy3.1, zY, qG, qP, qQ, qR, qS, qT, rowAt, ↓jg, ↓ji, Nat.reduceAdd, Nat.reduceEqDiff, ne_eq, jG, Nat.reduceLT, if_true, ite_true, Int.reduceLE, Int.reduceLT, Int.reduceEq, Int.reduceNeg, Int.reduceAdd, Nat.reduceSub, if_false, ite_false, fs_43.1]
        exact vclone_ok hO (hv.keep (by omega) fun j e => by have := halt j e; (repeat (first | rw [qE] | rw [qF _ _ _ _ (by omega)]))) hcc hl) (fun r hr => ?_) (by decide +kernel) ?_
      · obtain ⟨ca, c2, o', nx', rfl, q1, _, _, _, _, q2, q3⟩ := hr
        show cond ([] : List Nat).isEmpty (cond (Nat.beq (nx + 34) nx' && true) 2 3) 4 = _
        rw [hk3]
        cases a with
        | none => rw [q3 rfl, Nat.beq_refl]; rfl
        | some j =>
          have := q2 (by simp)
          rw [show Nat.beq (nx + 34) nx' = false from by
            cases e : Nat.beq (nx + 34) nx' with
            | false => rfl
            | true => have := Nat.eq_of_beq_eq_true e; omega]; rfl
      rintro v1 o1 nx1 l1 ⟨ca, c2, _, _, heq, hn1, hv1, hc1, hca1, hfr1, _, _⟩ cl1
      cases heq
      have h1' : HeapIn o1 nx1 w B hs := (more2 h _ _ 34 (by omega)).more hn1 hfr1
      have w2 : IntKind.i64.wrap (2 + Int.ofNat l.length) = 2 + Int.ofNat l.length := wrap_small _ (by simp only [Int.ofNat_eq_natCast]; omega) (by simp only [Int.ofNat_eq_natCast]; omega)
      have hr6 : o1.get (nx + 1) = some (.row [.int .u8 0, .int .i64 0] 41 0 true) := by rw [hfr1 _ (by omega)]; (repeat (first | rw [qE] | rw [qF _ _ _ _ (by omega)]))
      by_cases hroom : hs.max < hs.pool.used + (2 + Int.ofNat l.length)
      · have eA : addO hs (funcOb p l) (2 + Int.ofNat l.length) = (hs, (0, 0), 152) := by unfold addO; rw [if_pos hroom]
        rw [eA]
        have hfull := fun (X : AObj) (lg : List Nat) => add_full (n := n + 2) (o := o1.put (nx + 25) (some X)) (nx := nx1) (lg := lg) (bo := nx + 25) hO (h1'.keep (Nat.le_refl _) h1'.wlt fun x hx => ⟨qF _ _ _ _ (fun e => by have := h.wlt x hx; omega), rfl⟩) hG (by simp only [Int.ofNat_eq_natCast]; omega) (by simp only [Int.ofNat_eq_natCast]; omega) hroom
        repeat (first | with_reducible (first | refine n_on ?_ | refine n_seq ?_ | refine s_else ?_ | refine n_t ?_ | refine n_gt ?_ | refine d_t ?_ | refine n_nil ?_ | refine d_nil ?_ | refine n_block ?_ | refine n_skip ?_ | refine n_bon ?_ | refine n_bback ?_ | refine n_back ?_ | refine n_out ?_ | refine n_bout rfl ?_ | refine n_bfar rfl ?_ | refine n_ret ?_ | refine n_exit ?_ | refine n_label ?_ | refine n_scope ?_ | refine n_son ?_ | refine n_sback ?_) | (with_reducible (first | apply n_region | apply d_region); (simp only [JV, JU, JW, Nat.reduceAdd, Nat.zero_add]; exact rfl)) | (with_reducible (first | apply s_op | apply n_guard | apply n_cond | apply d_guard | apply d_op | apply n_fin | apply n_finb); (simp (maxDischargeDepth := 6) only [sy3.1, zY, qG, qP, qQ, qR, qS, qT, rowAt, ↓jg, ↓ji, Nat.reduceAdd, Nat.reduceEqDiff, ne_eq, jG, Nat.reduceLT, if_true, ite_true, Int.reduceLE, Int.reduceLT, Int.reduceEq, Int.reduceNeg, Int.reduceAdd, Nat.reduceSub, if_false, ite_false, fs_43.1, w2, hfull, hr6, kind_pure, kind_load, kind_fresh, kind_other, jg, ji, undef]; first | exact rfl | exact ⟨rfl, rfl, rfl, rfl⟩); try (with_reducible refine calmK_in ?_; decide +kernel)))
        exact quiet_end (by simp only [all_relogL, js, ju, List.all_nil, jt, Bool.and_self]) (by rfl) (.same h _)
      · repeat (first | with_reducible (first | refine n_on ?_ | refine n_seq ?_ | refine s_else ?_ | refine n_t ?_ | refine n_gt ?_ | refine d_t ?_ | refine n_nil ?_ | refine d_nil ?_ | refine n_block ?_ | refine n_skip ?_ | refine n_bon ?_ | refine n_bback ?_ | refine n_back ?_ | refine n_out ?_ | refine n_bout rfl ?_ | refine n_bfar rfl ?_ | refine n_ret ?_ | refine n_exit ?_ | refine n_label ?_ | refine n_scope ?_ | refine n_son ?_ | refine n_sback ?_) | (with_reducible (first | apply n_region | apply d_region); (simp only [JV, JU, JW, Nat.reduceAdd, Nat.zero_add]; exact rfl)) | (with_reducible (first | apply s_op | apply n_guard | apply n_cond | apply d_guard | apply d_op | apply n_fin | apply n_finb); (simp (maxDischargeDepth := 6) only [sy3.1, zY, qG, qP, qQ, qR, qS, qT, rowAt, ↓jg, ↓ji, Nat.reduceAdd, Nat.reduceEqDiff, ne_eq, jG, Nat.reduceLT, if_true, ite_true, Int.reduceLE, Int.reduceLT, Int.reduceEq, Int.reduceNeg, Int.reduceAdd, Nat.reduceSub, if_false, ite_false, fs_43.1, w2, hr6, kind_pure, kind_load, kind_fresh, kind_other, jg, ji, undef]; first | exact rfl | exact ⟨rfl, rfl, rfl, rfl⟩); try (with_reducible refine calmK_in ?_; decide +kernel)))
        obtain ⟨w1, hw1e⟩ : ∃ w1 : Nat → Nat, w1 = fun x => if x = nx + 25 then 8 + 5 * (takeP hs.pool (2 + Int.ofNat l.length)).2.1.toNat else if ca = some x then 9 + 5 * (takeP hs.pool (2 + Int.ofNat l.length)).2.1.toNat else w x := ⟨_, rfl⟩
        have hwnx : ∀ x, nx ≤ x → w x = 0 := fun x hx => by
          by_cases e : w x = 0
          · exact e
          · have := h.wlt x e; omega
        have hw1o : ∀ x, x ≠ nx + 25 → ca ≠ some x → w1 x = w x := fun x hx hx2 => by rw [hw1e]; simp only [hx, hx2, if_false]
        have hcalt : ∀ q, ca = some q → q < nx1 := fun q e => by
          rcases hv1 with ⟨e2, _⟩ | ⟨_, _, e2, hj, _⟩
          · rw [e] at e2; cases e2
          · rw [e] at e2; cases e2; exact hj
        have hwold : ∀ x, x < nx → w1 x = w x := fun x hx => hw1o x (by omega) fun e => by have := hca1 x e; omega
        have hpre : HeapIn (o1.put (nx + 25) (some (.row (obRow (funcOb p l) none none ca c2) 132 0 true))) nx1 w B hs := h1'.keep (Nat.le_refl _) h1'.wlt fun x hx => ⟨qF _ _ _ _ (fun e => by have := h.wlt x hx; omega), rfl⟩
        have hm61 : w1 (nx + 1) = 0 := by rw [hw1o _ (by omega) (fun e => by have := hca1 _ e; omega)]; exact hwnx _ (by omega)
        refine d_do (fun r => AddTo (o1.put (nx + 25) (some (.row (obRow (funcOb p l) none none ca c2) 132 0 true))) nx1 [] w w1 B hs (funcOb p l) (2 + Int.ofNat l.length) r) 4 (by
          simp (maxDischargeDepth := 6) only [sy3.1, zY, qG, qP, qQ, qR, qS, qT, rowAt, ↓jg, ↓ji, Nat.reduceAdd, Nat.reduceEqDiff, ne_eq, jG, Nat.reduceLT, if_true, ite_true, Int.reduceLE, Int.reduceLT, Int.reduceEq, Int.reduceNeg, Int.reduceAdd, Nat.reduceSub, if_false, ite_false, fs_43.1]
          refine add_ok (n := n + 2) (w1 := w1) (ob := funcOb p l) hO hpre hG (fun x hx => hwold x (h.wlt x hx)) (fun x hx => ?_) (by simp only [Int.ofNat_eq_natCast]; omega) (by simp only [Int.ofNat_eq_natCast]; omega) hc hmade (hwnx _ (by omega)) (fun _ => ⟨by omega, by rw [hw1e]; simp only [if_true], none, none, ca, c2, 0, qE _ _ _, hv1.keep (Nat.le_refl _) fun q e => qF _ _ _ _ (by have := hca1 q e; omega), hc1, fun q e => ?_, fun e => (by cases e)⟩) (by omega)
          · by_cases e : x = nx + 25
            · omega
            · by_cases e2 : ca = some x
              · exact hcalt x e2
              · rw [hw1o x e e2] at hx; have := h.wlt x hx; omega
          · rw [hw1e]; simp only [e, if_true]; rw [if_neg (by have := hca1 q e; omega)]) (fun r hr => ?_) (by decide +kernel) ?_
        · obtain ⟨o', nx', lg', w', B', rfl, _, _, _, _, _, hl⟩ := hr
          show cond lg'.isEmpty (cond (Nat.beq nx1 nx' && lg'.isEmpty) 2 3) 4 = _
          rcases hl with ⟨x, hx, _⟩ | ⟨_, _, _, _, _, e⟩
          · cases lg' with
            | nil => simp at hx
            | cons y ys => rfl
          · exfalso
            have := congrArg (fun q => q.objs.length) e
            unfold addO at this
            rw [if_neg hroom] at this
            simp at this
        rintro v2 o2 nx2 lg2 ⟨_, _, _, w', B', heq, hn2, hH2, hB, hfr2, _, hl⟩ cl2
        cases heq
        have hr62 : o2.get (nx + 1) = some (.row [.int .u8 0, .int .i64 0] 41 0 true) := by
          rw [(hfr2 (nx + 1) (by omega) hm61).1]; (repeat (first | rw [qE] | rw [qF _ _ _ _ (by omega)])); exact hr6
        repeat (first | with_reducible (first | refine n_on ?_ | refine n_seq ?_ | refine s_else ?_ | refine n_t ?_ | refine n_gt ?_ | refine d_t ?_ | refine n_nil ?_ | refine d_nil ?_ | refine n_block ?_ | refine n_skip ?_ | refine n_bon ?_ | refine n_bback ?_ | refine n_back ?_ | refine n_out ?_ | refine n_bout rfl ?_ | refine n_bfar rfl ?_ | refine n_ret ?_ | refine n_exit ?_ | refine n_label ?_ | refine n_scope ?_ | refine n_son ?_ | refine n_sback ?_) | (with_reducible (first | apply n_region | apply d_region); (simp only [JV, JU, JW, Nat.reduceAdd, Nat.zero_add]; exact rfl)) | (with_reducible (first | apply s_op | apply n_guard | apply n_cond | apply d_guard | apply d_op | apply n_fin | apply n_finb); (simp (maxDischargeDepth := 6) only [sy3.1, zY, qG, qP, qQ, qR, qS, qT, rowAt, ↓jg, ↓ji, Nat.reduceAdd, Nat.reduceEqDiff, ne_eq, jG, Nat.reduceLT, if_true, ite_true, Int.reduceLE, Int.reduceLT, Int.reduceEq, Int.reduceNeg, Int.reduceAdd, Nat.reduceSub, if_false, ite_false, fs_43.1, hr62, vv, kind_pure, kind_load, kind_fresh, kind_other, jg, ji, undef]; first | exact rfl | exact ⟨rfl, rfl, rfl, rfl⟩); try (with_reducible refine calmK_in ?_; decide +kernel)))
        have hwf := (hfr2 (nx + 1) (by omega) hm61).2
        refine hto_end h (w' := w') (B' := B') (by rfl) (hH2.keep (by omega) (fun x hx => by have := hH2.wlt x hx; omega) fun x hx => ⟨?_, rfl⟩) (by omega) hB (fun x hx hw0 => ?_) ?_
        · have : x ≠ nx + 1 := fun e => hx (by rw [e]; exact hwf)
          (repeat (first | rw [qE] | rw [qF _ _ _ _ (by omega)]))
        · have := hfr2 x (by omega) (by rw [hwold x hx]; exact hw0)
          refine ⟨?_, this.2⟩
          (repeat (first | rw [qE] | rw [qF _ _ _ _ (by omega)]))
          rw [this.1]
          (repeat (first | rw [qE] | rw [qF _ _ _ _ (by omega)]))
          rw [hfr1 x (by omega)]
          (repeat (first | rw [qE] | rw [qF _ _ _ _ (by omega)]))
        · rcases hl with ⟨x, hx, hw⟩ | ⟨_, _, _, _, _, e⟩
          · exact .inl ⟨x, by simp only [in_relogL, in_note, hx, true_or, or_true], hw⟩
          · exfalso
            have := congrArg (fun q => q.objs.length) e
            unfold addO at this
            rw [if_neg hroom] at this
            simp at this
    · refine d_do (CloneTo ((o.put nx (some (.row [.pointer (some ⟨B.i, 0, none⟩)] 37 0 true))).put (nx + 1) (some (.row [.int .u8 0, .int .i64 0] 41 0 true))) (nx + 34) [] a l) 3 (by
        simp (maxDischargeDepth := 6) only [sy3.1, zY, qG, qP, qQ, qR, qS, qT, rowAt, ↓jg, ↓ji, Nat.reduceAdd, Nat.reduceEqDiff, ne_eq, jG, Nat.reduceLT, if_true, ite_true, Int.reduceLE, Int.reduceLT, Int.reduceEq, Int.reduceNeg, Int.reduceAdd, Nat.reduceSub, if_false, ite_false, fs_43.1]
        exact vclone_ok hO (hv.keep (by omega) fun j e => by have := halt j e; (repeat (first | rw [qE] | rw [qF _ _ _ _ (by omega)]))) hcc hl) (fun r hr => ?_) (by decide +kernel) ?_
      · obtain ⟨ca, c2, o', nx', rfl, q1, _, _, _, _, q2, q3⟩ := hr
        show cond ([] : List Nat).isEmpty (cond (Nat.beq (nx + 34) nx' && true) 2 3) 4 = _
        rw [hk3]
        cases a with
        | none => rw [q3 rfl, Nat.beq_refl]; rfl
        | some j =>
          have := q2 (by simp)
          rw [show Nat.beq (nx + 34) nx' = false from by
            cases e : Nat.beq (nx + 34) nx' with
            | false => rfl
            | true => have := Nat.eq_of_beq_eq_true e; omega]; rfl
      rintro v1 o1 nx1 l1 ⟨ca, c2, _, _, heq, hn1, hv1, hc1, hca1, hfr1, _, _⟩ cl1
      cases heq
      have h1' : HeapIn o1 nx1 w B hs := (more2 h _ _ 34 (by omega)).more hn1 hfr1
      have w2 : IntKind.i64.wrap (2 + Int.ofNat l.length) = 2 + Int.ofNat l.length := wrap_small _ (by simp only [Int.ofNat_eq_natCast]; omega) (by simp only [Int.ofNat_eq_natCast]; omega)
      have hr6 : o1.get (nx + 1) = some (.row [.int .u8 0, .int .i64 0] 41 0 true) := by rw [hfr1 _ (by omega)]; (repeat (first | rw [qE] | rw [qF _ _ _ _ (by omega)]))
      by_cases hroom : hs.max < hs.pool.used + (2 + Int.ofNat l.length)
      · have eA : addO hs (funcOb p l) (2 + Int.ofNat l.length) = (hs, (0, 0), 152) := by unfold addO; rw [if_pos hroom]
        rw [eA]
        have hfull := fun (X : AObj) (lg : List Nat) => add_full (n := n + 2) (o := o1.put (nx + 25) (some X)) (nx := nx1) (lg := lg) (bo := nx + 25) hO (h1'.keep (Nat.le_refl _) h1'.wlt fun x hx => ⟨qF _ _ _ _ (fun e => by have := h.wlt x hx; omega), rfl⟩) hG (by simp only [Int.ofNat_eq_natCast]; omega) (by simp only [Int.ofNat_eq_natCast]; omega) hroom
        repeat (first | with_reducible (first | refine n_on ?_ | refine n_seq ?_ | refine s_else ?_ | refine n_t ?_ | refine n_gt ?_ | refine d_t ?_ | refine n_nil ?_ | refine d_nil ?_ | refine n_block ?_ | refine n_skip ?_ | refine n_bon ?_ | refine n_bback ?_ | refine n_back ?_ | refine n_out ?_ | refine n_bout rfl ?_ | refine n_bfar rfl ?_ | refine n_ret ?_ | refine n_exit ?_ | refine n_label ?_ | refine n_scope ?_ | refine n_son ?_ | refine n_sback ?_) | (with_reducible (first | apply n_region | apply d_region); (simp only [JV, JU, JW, Nat.reduceAdd, Nat.zero_add]; exact rfl)) | (with_reducible (first | apply s_op | apply n_guard | apply n_cond | apply d_guard | apply d_op | apply n_fin | apply n_finb); (simp (maxDischargeDepth := 6) only [sy3.1, zY, qG, qP, qQ, qR, qS, qT, rowAt, ↓jg, ↓ji, Nat.reduceAdd, Nat.reduceEqDiff, ne_eq, jG, Nat.reduceLT, if_true, ite_true, Int.reduceLE, Int.reduceLT, Int.reduceEq, Int.reduceNeg, Int.reduceAdd, Nat.reduceSub, if_false, ite_false, fs_43.1, w2, hfull, hr6, kind_pure, kind_load, kind_fresh, kind_other, jg, ji, undef]; first | exact rfl | exact ⟨rfl, rfl, rfl, rfl⟩); try (with_reducible refine calmK_in ?_; decide +kernel)))
        exact quiet_end (by simp only [all_relogL, js, ju, List.all_nil, jt, Bool.and_self]) (by rfl) (.same h _)
      · repeat (first | with_reducible (first | refine n_on ?_ | refine n_seq ?_ | refine s_else ?_ | refine n_t ?_ | refine n_gt ?_ | refine d_t ?_ | refine n_nil ?_ | refine d_nil ?_ | refine n_block ?_ | refine n_skip ?_ | refine n_bon ?_ | refine n_bback ?_ | refine n_back ?_ | refine n_out ?_ | refine n_bout rfl ?_ | refine n_bfar rfl ?_ | refine n_ret ?_ | refine n_exit ?_ | refine n_label ?_ | refine n_scope ?_ | refine n_son ?_ | refine n_sback ?_) | (with_reducible (first | apply n_region | apply d_region); (simp only [JV, JU, JW, Nat.reduceAdd, Nat.zero_add]; exact rfl)) | (with_reducible (first | apply s_op | apply n_guard | apply n_cond | apply d_guard | apply d_op | apply n_fin | apply n_finb); (simp (maxDischargeDepth := 6) only [sy3.1, zY, qG, qP, qQ, qR, qS, qT, rowAt, ↓jg, ↓ji, Nat.reduceAdd, Nat.reduceEqDiff, ne_eq, jG, Nat.reduceLT, if_true, ite_true, Int.reduceLE, Int.reduceLT, Int.reduceEq, Int.reduceNeg, Int.reduceAdd, Nat.reduceSub, if_false, ite_false, fs_43.1, w2, hr6, kind_pure, kind_load, kind_fresh, kind_other, jg, ji, undef]; first | exact rfl | exact ⟨rfl, rfl, rfl, rfl⟩); try (with_reducible refine calmK_in ?_; decide +kernel)))
        obtain ⟨w1, hw1e⟩ : ∃ w1 : Nat → Nat, w1 = fun x => if x = nx + 25 then 8 + 5 * (takeP hs.pool (2 + Int.ofNat l.length)).2.1.toNat else if ca = some x then 9 + 5 * (takeP hs.pool (2 + Int.ofNat l.length)).2.1.toNat else w x := ⟨_, rfl⟩
        have hwnx : ∀ x, nx ≤ x → w x = 0 := fun x hx => by
          by_cases e : w x = 0
          · exact e
          · have := h.wlt x e; omega
        have hw1o : ∀ x, x ≠ nx + 25 → ca ≠ some x → w1 x = w x := fun x hx hx2 => by rw [hw1e]; simp only [hx, hx2, if_false]
        have hcalt : ∀ q, ca = some q → q < nx1 := fun q e => by
          rcases hv1 with ⟨e2, _⟩ | ⟨_, _, e2, hj, _⟩
          · rw [e] at e2; cases e2
          · rw [e] at e2; cases e2; exact hj
        have hwold : ∀ x, x < nx → w1 x = w x := fun x hx => hw1o x (by omega) fun e => by have := hca1 x e; omega
        have hpre : HeapIn (o1.put (nx + 25) (some (.row (obRow (funcOb p l) none none ca c2) 132 0 true))) nx1 w B hs := h1'.keep (Nat.le_refl _) h1'.wlt fun x hx => ⟨qF _ _ _ _ (fun e => by have := h.wlt x hx; omega), rfl⟩
        have hm61 : w1 (nx + 1) = 0 := by rw [hw1o _ (by omega) (fun e => by have := hca1 _ e; omega)]; exact hwnx _ (by omega)
        refine d_do (fun r => AddTo (o1.put (nx + 25) (some (.row (obRow (funcOb p l) none none ca c2) 132 0 true))) nx1 [] w w1 B hs (funcOb p l) (2 + Int.ofNat l.length) r) 4 (by
          simp (maxDischargeDepth := 6) only [sy3.1, zY, qG, qP, qQ, qR, qS, qT, rowAt, ↓jg, ↓ji, Nat.reduceAdd, Nat.reduceEqDiff, ne_eq, jG, Nat.reduceLT, if_true, ite_true, Int.reduceLE, Int.reduceLT, Int.reduceEq, Int.reduceNeg, Int.reduceAdd, Nat.reduceSub, if_false, ite_false, fs_43.1]
          refine add_ok (n := n + 2) (w1 := w1) (ob := funcOb p l) hO hpre hG (fun x hx => hwold x (h.wlt x hx)) (fun x hx => ?_) (by simp only [Int.ofNat_eq_natCast]; omega) (by simp only [Int.ofNat_eq_natCast]; omega) hc hmade (hwnx _ (by omega)) (fun _ => ⟨by omega, by rw [hw1e]; simp only [if_true], none, none, ca, c2, 0, qE _ _ _, hv1.keep (Nat.le_refl _) fun q e => qF _ _ _ _ (by have := hca1 q e; omega), hc1, fun q e => ?_, fun e => (by cases e)⟩) (by omega)
          · by_cases e : x = nx + 25
            · omega
            · by_cases e2 : ca = some x
              · exact hcalt x e2
              · rw [hw1o x e e2] at hx; have := h.wlt x hx; omega
          · rw [hw1e]; simp only [e, if_true]; rw [if_neg (by have := hca1 q e; omega)]) (fun r hr => ?_) (by decide +kernel) ?_
        · obtain ⟨o', nx', lg', w', B', rfl, _, _, _, _, _, hl⟩ := hr
          show cond lg'.isEmpty (cond (Nat.beq nx1 nx' && lg'.isEmpty) 2 3) 4 = _
          rcases hl with ⟨x, hx, _⟩ | ⟨_, _, _, _, _, e⟩
          · cases lg' with
            | nil => simp at hx
            | cons y ys => rfl
          · exfalso
            have := congrArg (fun q => q.objs.length) e
            unfold addO at this
            rw [if_neg hroom] at this
            simp at this
        rintro v2 o2 nx2 lg2 ⟨_, _, _, w', B', heq, hn2, hH2, hB, hfr2, _, hl⟩ cl2
        cases heq
        have hr62 : o2.get (nx + 1) = some (.row [.int .u8 0, .int .i64 0] 41 0 true) := by
          rw [(hfr2 (nx + 1) (by omega) hm61).1]; (repeat (first | rw [qE] | rw [qF _ _ _ _ (by omega)])); exact hr6
        repeat (first | with_reducible (first | refine n_on ?_ | refine n_seq ?_ | refine s_else ?_ | refine n_t ?_ | refine n_gt ?_ | refine d_t ?_ | refine n_nil ?_ | refine d_nil ?_ | refine n_block ?_ | refine n_skip ?_ | refine n_bon ?_ | refine n_bback ?_ | refine n_back ?_ | refine n_out ?_ | refine n_bout rfl ?_ | refine n_bfar rfl ?_ | refine n_ret ?_ | refine n_exit ?_ | refine n_label ?_ | refine n_scope ?_ | refine n_son ?_ | refine n_sback ?_) | (with_reducible (first | apply n_region | apply d_region); (simp only [JV, JU, JW, Nat.reduceAdd, Nat.zero_add]; exact rfl)) | (with_reducible (first | apply s_op | apply n_guard | apply n_cond | apply d_guard | apply d_op | apply n_fin | apply n_finb); (simp (maxDischargeDepth := 6) only [sy3.1, zY, qG, qP, qQ, qR, qS, qT, rowAt, ↓jg, ↓ji, Nat.reduceAdd, Nat.reduceEqDiff, ne_eq, jG, Nat.reduceLT, if_true, ite_true, Int.reduceLE, Int.reduceLT, Int.reduceEq, Int.reduceNeg, Int.reduceAdd, Nat.reduceSub, if_false, ite_false, fs_43.1, hr62, vv, kind_pure, kind_load, kind_fresh, kind_other, jg, ji, undef]; first | exact rfl | exact ⟨rfl, rfl, rfl, rfl⟩); try (with_reducible refine calmK_in ?_; decide +kernel)))
        have hwf := (hfr2 (nx + 1) (by omega) hm61).2
        refine hto_end h (w' := w') (B' := B') (by rfl) (hH2.keep (by omega) (fun x hx => by have := hH2.wlt x hx; omega) fun x hx => ⟨?_, rfl⟩) (by omega) hB (fun x hx hw0 => ?_) ?_
        · have : x ≠ nx + 1 := fun e => hx (by rw [e]; exact hwf)
          (repeat (first | rw [qE] | rw [qF _ _ _ _ (by omega)]))
        · have := hfr2 x (by omega) (by rw [hwold x hx]; exact hw0)
          refine ⟨?_, this.2⟩
          (repeat (first | rw [qE] | rw [qF _ _ _ _ (by omega)]))
          rw [this.1]
          (repeat (first | rw [qE] | rw [qF _ _ _ _ (by omega)]))
          rw [hfr1 x (by omega)]
          (repeat (first | rw [qE] | rw [qF _ _ _ _ (by omega)]))
        · rcases hl with ⟨x, hx, hw⟩ | ⟨_, _, _, _, _, e⟩
          · exact .inl ⟨x, by simp only [in_relogL, in_note, hx, true_or, or_true], hw⟩
          · exfalso
            have := congrArg (fun q => q.objs.length) e
            unfold addO at this
            rw [if_neg hroom] at this
            simp at this
end
end Go.Proofs.Ytckahbnkdiamjaa
