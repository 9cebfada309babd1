/- Heap: the values of some numbers, rising, each with its object's kind, on the abstract machine; the sort is a help. -/
import Derived.Test.YthnlkahgmbadoaaSrtPlain
import Derived.Test.YthnlkahgmbadoaaTabApp
import Derived.Test.YthnlkahgmbadoaaClr
namespace Go.Proofs.Ythnlkahgmbadoaa
open Go.RowKit
set_option linter.unusedSimpArgs false
set_option linter.unusedVariables false
set_option maxRecDepth 100000

/-- the sort as a help -/
def sortFn : List Value → AHeap → Option (Value × AHeap)
  | [.slice none 0 0], H => some (.tuple #[], H)
  | [.slice (some ⟨i, 0, none⟩) n _], H => match H.get i with
    | some (.row cells elem esz true) => cond (Nat.beq cells.length n && (Nat.blt 0 n && Nat.blt n 4611686018427387904)) ((intsOf cells).map fun xs => (.tuple #[], H.upd i (some (.row ((sortI xs).map zv) elem esz true)))) none
    | _ => none
  | _, _ => none
theorem sort_ok {O : Helps} {n i c : Nat} {xs : List Int} (hS : O 41 = some sortFn) (h0 : 0 < xs.length) (h1 : xs.length ≤ 1000000) : ∀ (o : Tr AObj) (nx : Nat) (lg : List Nat), o.get i = some (.row (xs.map zv) 3 1 true) →
    oCall Try.prog [] O (n + 1) 41 [.slice (some ⟨i, 0, none⟩) xs.length c] ⟨o, nx, lg⟩ = some (.tuple #[], ⟨o.put i (some (.row ((sortI xs).map zv) 3 1 true)), nx, noteId i lg⟩) := by
  intro o nx lg hg
  simp only [oCall, hS]
  have e1 : (⟨o, nx, lg⟩ : AHeap).get i = o.get i := rfl
  have e2 : (Nat.beq (xs.map zv).length xs.length && (Nat.blt 0 xs.length && Nat.blt xs.length 4611686018427387904)) = true := by
    rw [Bool.and_eq_true, Bool.and_eq_true]
    exact ⟨by rw [List.length_map]; exact Nat.beq_refl _, by rw [Nat.blt_eq]; omega, by rw [Nat.blt_eq]; omega⟩
  have hlen : xs.length ≠ 0 := by omega
  unfold sortFn
  split
  · rename_i h; injection h with h; injection h with h; cases h
  · rename_i i' n' c' h
    injection h with h
    injection h with h4 h5 h6
    injection h4 with h4
    injection h4 with h4
    subst h4; subst h5
    rw [e1, hg]
    simp only [e2, cond, intsOf_map, Option.map_some]
    rfl
  · rename_i h1 h2
    exact absurd rfl (h2 i xs.length c)

def kvCells (l : List (Int × Int)) : List Value := l.flatMap fun v => [.int .u8 v.1, .int .i64 v.2]
theorem kv_len (l : List (Int × Int)) : (kvCells l).length = l.length * 2 := by
  induction l with
  | nil => rfl
  | cons v l ih => simp only [kvCells, List.flatMap_cons, List.length_append, List.length_cons, List.length_nil] at ih ⊢; omega
theorem hv_snoc (l : List (Int × Int)) (k x : Int) : kvCells l ++ [.int .u8 k, .int .i64 x] = kvCells (l ++ [(k, x)]) := by
  simp only [kvCells, List.flatMap_append, List.flatMap_cons, List.flatMap_nil, List.append_nil]
theorem app_kv : appOf Try.prog 37 37 = some (30, 2, 16) := by kernel_rfl
theorem build_kv : ∀ (a b : Int) fid H, buildSliceV Try.prog 37 1 [(0, .agg #[.int .u8 a, .int .i64 b])] fid H = some (.slice (some ⟨fid, 0, none⟩) 1 2, newRowA fid [.int .u8 a, .int .i64 b] 30 2 H) := fun a b fid H => by kernel_rfl
/-- a list of values of the call's own -/
def OutL (o : Tr AObj) (lo : Nat) (a : Option Nat) (l : List (Int × Int)) : Prop :=
  (a = none ∧ l = []) ∨ ∃ q, a = some q ∧ lo ≤ q ∧ l ≠ [] ∧ o.get q = some (.row (kvCells l) 30 2 true)
abbrev sla (a : Option Nat) : Option Addr := a.map fun j => ⟨j, 0, none⟩
theorem OutL.keep {o o' : Tr AObj} {lo : Nat} {a : Option Nat} {l : List (Int × Int)} (h : OutL o lo a l) (hk : ∀ q, a = some q → o'.get q = o.get q) : OutL o' lo a l := by
  rcases h with h | ⟨q, h1, h2, h3, h4⟩
  · exact .inl h
  · exact .inr ⟨q, h1, h2, h3, (hk q h1).trans h4⟩
theorem kv_app {o : Tr AObj} {lo nx fid q : Nat} {lg : List Nat} {a : Option Nat} {l : List (Int × Int)} {k x : Int} (h : OutL o lo a l) (hq : o.get q = some (.row [.int .u8 k, .int .i64 x] 30 2 true)) (hl : l.length < 1000000) (hf : a ≠ some fid) :
    ∃ o2 lg2, aAppend Try.prog 37 37 (.slice (sla a) l.length 0) (.slice (some ⟨q, 0, none⟩) 1 2) fid ⟨o, nx, lg⟩ = some (.slice (some ⟨fid, 0, none⟩) (l.length + 1) 0, ⟨o2, nx, lg2⟩) ∧
      (∀ y, y ≠ fid → a ≠ some y → o2.get y = o.get y) ∧ o2.get fid = some (.row (kvCells (l ++ [(k, x)])) 30 2 true) := by
  have hadd : addCells 2 (.slice (some ⟨q, 0, none⟩) 1 2) ⟨o, nx, lg⟩ = some (0 + 1, [.int .u8 k, .int .i64 x]) := by
    simp only [addCells, qH, hq]; rfl
  rcases h with ⟨rfl, rfl⟩ | ⟨j, rfl, hj, hne, hrow⟩
  · refine ⟨o.put fid (some (.row (kvCells [(k, x)]) 30 2 true)), lg, ?_, fun y hy _ => qF _ _ _ _ (by exact hy), qE _ _ _⟩
    show aAppend _ _ _ (.slice none 0 0) _ _ _ = _
    rw [app_none app_kv hadd rfl]; rfl
  · refine ⟨(o.put j none).put fid (some (.row (kvCells (l ++ [(k, x)])) 30 2 true)), noteId j lg, ?_, fun y hy hy2 => ?_, qE _ _ _⟩
    · have hr : roomOk (l.length + (0 + 1)) 16 = true := by unfold roomOk; rw [Bool.and_eq_true, Nat.ble_eq, Nat.ble_eq]; omega
      show aAppend _ _ _ (.slice (some ⟨j, 0, none⟩) l.length 0) _ _ _ = _
      rw [app_row app_kv hadd hrow (show cut (kvCells l) 0 (l.length * 2) = some (kvCells l) from cut_in (by rw [kv_len]) [] [] rfl (by simp)) hr rfl, hv_snoc]; rfl
    · rw [qF _ _ _ _ (by exact hy), qF _ _ _ _ (fun e => hy2 (by rw [e]))]
theorem got_is {α : Type} {r : Option α} {a : α} (h : r = some a) : Got r fun x => x = a := ⟨a, h, rfl⟩
theorem blt_no {nx j : Nat} (hj : nx ≤ j) : Nat.blt j nx = false := by
  cases e : Nat.blt j nx with
  | false => rfl
  | true => rw [Nat.blt_eq] at e; omega
theorem lp_cut {P : Program} {call : CallFn} {fuel i : Nat} {c : Code} {env : Tr Value} {H : AHeap} {Q : St → Prop} (I : Tr Value → AHeap → Prop) (h1 : Got (rCode P call fuel (.loop c) env H) fun s => ∃ e h, s = (Way.out i, e, h) ∧ I e h) (h2 : ∀ e h, I e h → Q (.out i, e, h)) : Got (rCode P call fuel (.loop c) env H) Q :=
  h1.mono (by rintro s ⟨e, h, rfl, hi⟩; exact h2 e h hi)

/-- where a number's object lies, and of which kind it is -/
def KindAt (o : Tr AObj) (mb : Nat) (es : List MapEntry) (ck : Nat) (lt : Nat) (x k : Int) : Prop :=
  ∃ b T z own cells, b < lt ∧ o.get b = some (.row (.int .u8 k :: cells) T z own) ∧ ∀ H : AHeap, H.get mb = some (.map es ck) → aLookup Try.prog 60 (.map (some mb)) (.int .i64 x) false H = some (.pointer (some ⟨b, 0, none⟩))
def VTo (o : Tr AObj) (nx i : Nat) (ys : List Int) (kf : Int → Int) (r : Value × AHeap) : Prop :=
  ∃ j o' nx' lg', r = (.slice (some ⟨j, 0, none⟩) ys.length 0, ⟨o', nx', lg'⟩) ∧ nx ≤ j ∧ j < nx' ∧ o'.get j = some (.row (kvCells (ys.map fun x => (kf x, x))) 30 2 true) ∧ ∀ x, x < nx → x ≠ i → o'.get x = o.get x
section
variable {O : Helps} {n : Nat} {o : Tr AObj} {nx : Nat} {lg : List Nat}
set_option maxHeartbeats 16000000 in
theorem values_ok (hO : Clear O) (hS : O 41 = some sortFn) {hb mb i c : Nat} {c0 c1 c3 c4 c5 c6 : Value} {T z : Nat} {own : Bool} {es : List MapEntry} {ck : Nat} {xs : List Int} {kf : Int → Int}
    (hr : o.get hb = some (.row [c0, c1, .map (some mb), c3, c4, c5, c6] T z own)) (hm : o.get mb = some (.map es ck)) (hrow : o.get i = some (.row (xs.map zv) 3 1 true)) (hhb : hb < i) (hmb : mb < i) (hi : i < nx)
    (h0 : 0 < xs.length) (hl : xs.length ≤ 1000000) (hn : xs.length < n) (hk : ∀ x ∈ xs, KindAt o mb es ck i x (kf x)) :
    Got (oCall Try.prog [] O (n + 2) 26 [.pointer (some ⟨hb, 0, none⟩), .slice (some ⟨i, 0, none⟩) xs.length c] ⟨o, nx, lg⟩) (VTo o nx i (sortI xs) kf) := by
  have hsort := sort_ok (n := n) (i := i) (c := c) hS h0 hl
  have hhn : hb < nx := by omega
  have hmn : mb < nx := by omega
  rw [y_fn (rs := [.tmp 4]) (hO _ (by decide)) Try.func26 rfl (by kernel_rfl) rfl rfl]
  repeat (first | with_reducible (first | refine n_on ?_ | refine n_seq ?_ | refine s_else ?_ | refine n_t ?_ | refine n_gt ?_ | refine d_t ?_ | refine n_nil ?_ | refine d_nil ?_ | refine n_block ?_ | refine n_skip ?_ | refine n_bon ?_ | refine n_bback ?_ | refine n_back ?_ | refine n_out ?_ | refine n_bout rfl ?_ | refine n_bfar rfl ?_ | refine n_ret ?_ | refine n_exit ?_ | refine n_label ?_ | refine n_scope ?_ | refine n_son ?_ | refine n_sback ?_) | (with_reducible (first | apply n_region | apply d_region); (simp only [JV, JU, JW, Nat.reduceAdd, Nat.zero_add]; exact rfl)) | (with_reducible (first | apply s_op | apply n_guard | apply n_cond | apply d_guard | apply d_op | apply n_fin | apply n_finb); (simp (maxDischargeDepth := 6) only [sy3.1, zY, qG, qP, qQ, qR, qS, qT, rowAt, ↓jg, ↓ji, Nat.reduceAdd, Nat.reduceEqDiff, ne_eq, jG, Nat.reduceLT, if_true, ite_true, Int.reduceLE, Int.reduceLT, Int.reduceEq, Int.reduceNeg, Int.reduceAdd, Nat.reduceSub, if_false, ite_false, fs_26.1, hrow, hi, hsort, kind_pure, kind_load, kind_fresh, kind_other, jg, ji, undef]; first | exact rfl | exact ⟨rfl, rfl, rfl, rfl⟩); try (with_reducible refine calmK_in ?_; decide +kernel)))
  have hk : ∀ x ∈ sortI xs, KindAt o mb es ck i x (kf x) := fun x hx => hk x ((sortI_perm xs).subset hx)
  have hll := sortI_length xs
  rw [← hll] at h0 hl hn ⊢
  generalize sortI xs = ys at hk h0 hl hn ⊢
  refine lp_cut (i := 0) (I := fun e' H => ∃ o' nx' lg' a', H = (⟨o', nx', lg'⟩ : AHeap) ∧ nx ≤ nx' ∧ (∀ x, x < nx → x ≠ i → o'.get x = o.get x) ∧ OutL o' nx a' (ys.map fun x => (kf x, x)) ∧ (∀ q, a' = some q → q < nx') ∧ e'.get 5 = some (.slice (sla a') ys.length 0)) ?_ ?_
  · rw [y_loop_eq]
    refine y_loop (I := fun q e' H => ∃ d r o' nx' lg' a', ys = d ++ r ∧ r.length = q ∧ H = (⟨o', nx', lg'⟩ : AHeap) ∧ nx ≤ nx' ∧ (∀ x, x < nx → x ≠ i → o'.get x = o.get x) ∧ o'.get i = some (.row (ys.map zv) 3 1 true) ∧ OutL o' nx a' (d.map fun x => (kf x, x)) ∧ (∀ q, a' = some q → q < nx') ∧ e'.get 0 = some (.pointer (some ⟨hb, 0, none⟩)) ∧ e'.get 5 = some (.slice (sla a') d.length 0) ∧ e'.get 10 = some (.slice (some ⟨i, 0, none⟩) ys.length c) ∧ e'.get 11 = some (.int .i64 (.ofNat ys.length)) ∧ e'.get 12 = some (.int .i64 (.ofNat d.length))) ?_ ys.length _ _ _ ⟨[], ys, _, _, _, none, rfl, rfl, rfl, by omega, fun x hx hxi => by (repeat (first | rw [qE] | rw [qF _ _ _ _ (by omega)])), by (repeat (first | rw [qE] | rw [qF _ _ _ _ (by omega)])), .inl ⟨rfl, rfl⟩, fun q e => (by cases e), ?_, ?_, ?_, ?_, ?_⟩ (by omega)
    rotate_left
    · simp only [qC, qD, qE, qF, Tr.get_nil, ne_eq, not_false_eq_true, Nat.reduceEqDiff]; rfl
    · simp only [qC, qD, qE, qF, Tr.get_nil, ne_eq, not_false_eq_true, Nat.reduceEqDiff]; rfl
    · simp only [qC, qD, qE, qF, Tr.get_nil, ne_eq, not_false_eq_true, Nat.reduceEqDiff]
    · simp only [qC, qD, qE, qF, Tr.get_nil, ne_eq, not_false_eq_true, Nat.reduceEqDiff]
    · simp only [qC, qD, qE, qF, Tr.get_nil, ne_eq, not_false_eq_true, Nat.reduceEqDiff]; rfl
    rintro q e' H ⟨d, r, o9, N9, lg9, a1, hdr, hq, rfl, p1, p3, pi, p4, p5, g0, g5, g10, g11, g12⟩
    have hdl : d.length + r.length = ys.length := by rw [hdr, List.length_append]
    cases r with
    | nil =>
      have hlt : decide (d.length < ys.length) = false := decide_eq_false (by rw [← hdl]; simp)
      repeat (first | with_reducible (first | refine n_on ?_ | refine n_seq ?_ | refine s_else ?_ | refine n_t ?_ | refine n_gt ?_ | refine d_t ?_ | refine n_nil ?_ | refine d_nil ?_ | refine n_block ?_ | refine n_skip ?_ | refine n_bon ?_ | refine n_bback ?_ | refine n_back ?_ | refine n_out ?_ | refine n_bout rfl ?_ | refine n_bfar rfl ?_ | refine n_ret ?_ | refine n_exit ?_ | refine n_label ?_ | refine n_scope ?_ | refine n_son ?_ | refine n_sback ?_) | (with_reducible (first | apply n_region | apply d_region); (simp only [JV, JU, JW, Nat.reduceAdd, Nat.zero_add]; exact rfl)) | (with_reducible (first | apply s_op | apply n_guard | apply n_cond | apply d_guard | apply d_op | apply n_fin | apply n_finb); (simp (maxDischargeDepth := 6) only [sy3.1, zY, qG, qP, qQ, qR, qS, qT, rowAt, ↓jg, ↓ji, Nat.reduceAdd, Nat.reduceEqDiff, ne_eq, jG, Nat.reduceLT, if_true, ite_true, Int.reduceLE, Int.reduceLT, Int.reduceEq, Int.reduceNeg, Int.reduceAdd, Nat.reduceSub, if_false, ite_false, fs_26.1, g0, g5, g10, g11, g12, hlt, kind_pure, kind_load, kind_fresh, kind_other, jg, ji, undef]; first | exact rfl | exact ⟨rfl, rfl, rfl, rfl⟩); try (with_reducible refine calmK_in ?_; decide +kernel)))
      rw [List.append_nil] at hdr
      refine ⟨_, _, rfl, _, _, _, a1, rfl, by omega, p3, by rw [hdr]; exact p4, fun q e => by have := p5 q e; omega, ?_⟩
      simp only [qC, qD, qE, qF, Tr.get_nil, ne_eq, not_false_eq_true, Nat.reduceEqDiff, g5]; rw [hdr]
    | cons x r =>
      simp only [List.length_cons] at hdl hq
      have hlt : decide (d.length < ys.length) = true := decide_eq_true (by omega)
      have hi9 : i < N9 := by omega
      have hh9 : hb < N9 := by omega
      have hm9 : mb < N9 := by omega
      have hr9 := (p3 hb hhn (by omega)).trans hr
      have hmp9 := (p3 mb hmn (by omega)).trans hm
      obtain ⟨b, T2, z2, own2, cells, hbi, hbr, hlk⟩ := hk x (by rw [hdr]; simp)
      have hbN : b < N9 := by omega
      have hb9 := (p3 b (by omega) (by omega)).trans hbr
      have l1 : Nat.blt d.length ys.length = true := by rw [Nat.blt_eq]; omega
      have hc : (ys.map zv)[d.length]? = some (.int .i64 x) := by rw [hdr]; simp
      have hc2 : cut (ys.map zv) d.length 1 = some [.int .i64 x] := by
        refine cut_in rfl (d.map zv) (r.map zv) (by simp) ?_
        rw [hdr]; simp
      have hw1 : IntKind.i64.wrap (Int.ofNat d.length + 1) = Int.ofNat (d.length + 1) := by rw [wrap_small _ (by simp only [Int.ofNat_eq_natCast]; omega) (by simp only [Int.ofNat_eq_natCast]; omega)]; rfl
      have n1 : decide (ys.length ≤ d.length) = false := decide_eq_false (by omega)
      repeat (first | with_reducible (first | refine n_on ?_ | refine n_seq ?_ | refine s_else ?_ | refine n_t ?_ | refine n_gt ?_ | refine d_t ?_ | refine n_nil ?_ | refine d_nil ?_ | refine n_block ?_ | refine n_skip ?_ | refine n_bon ?_ | refine n_bback ?_ | refine n_back ?_ | refine n_out ?_ | refine n_bout rfl ?_ | refine n_bfar rfl ?_ | refine n_ret ?_ | refine n_exit ?_ | refine n_label ?_ | refine n_scope ?_ | refine n_son ?_ | refine n_sback ?_) | (with_reducible (first | apply n_region | apply d_region); (simp only [JV, JU, JW, Nat.reduceAdd, Nat.zero_add]; exact rfl)) | (with_reducible (first | apply s_op | apply n_guard | apply n_cond | apply d_guard | apply d_op | apply n_fin | apply n_finb); (simp (maxDischargeDepth := 6) only [sy3.1, zY, qG, qP, qQ, qR, qS, qT, rowAt, ↓jg, ↓ji, Nat.reduceAdd, Nat.reduceEqDiff, ne_eq, jG, Nat.reduceLT, if_true, ite_true, Int.reduceLE, Int.reduceLT, Int.reduceEq, Int.reduceNeg, Int.reduceAdd, Nat.reduceSub, if_false, ite_false, fs_26.1, g0, g5, g10, g11, g12, hlt, pi, hi9, hh9, hm9, hr9, hmp9, hbN, hb9, hlk, hc, hc2, l1, n1, hw1, indexAt, Option.isNone_none, Nat.mul_one, st_buildSliceV, build_kv, kind_pure, kind_load, kind_fresh, kind_other, jg, ji, undef]; first | exact rfl | exact ⟨rfl, rfl, rfl, rfl⟩); try (with_reducible refine calmK_in ?_; decide +kernel)))
      obtain ⟨o2, lg2, happ, hk2, hfid⟩ := kv_app (nx := N9 + 19) (fid := N9 + 17) (q := N9 + 16) (lo := nx) (lg := lg9) (k := kf x) (x := x) (o := o9.put (N9 + 16) (some (.row [.int .u8 (kf x), .int .i64 x] 30 2 true))) (a := a1) (l := d.map fun x => (kf x, x)) (p4.keep fun q e => by have := p5 q e; (repeat (first | rw [qE] | rw [qF _ _ _ _ (by omega)]))) (qE _ _ _) (by rw [List.length_map]; omega) (fun e => by have := p5 _ e; omega)
      rw [List.length_map] at happ
      refine s_do _ (by
        simp (maxDischargeDepth := 6) only [sy3.1, zY, qG, qP, qQ, qR, qS, qT, rowAt, ↓jg, ↓ji, Nat.reduceAdd, Nat.reduceEqDiff, ne_eq, jG, Nat.reduceLT, if_true, ite_true, Int.reduceLE, Int.reduceLT, Int.reduceEq, Int.reduceNeg, Int.reduceAdd, Nat.reduceSub, if_false, ite_false, fs_26.1]
        exact got_is happ) ?_
      rintro _ _ heq
      cases heq
      repeat (first | with_reducible (first | refine n_on ?_ | refine n_seq ?_ | refine s_else ?_ | refine n_t ?_ | refine n_gt ?_ | refine d_t ?_ | refine n_nil ?_ | refine d_nil ?_ | refine n_block ?_ | refine n_skip ?_ | refine n_bon ?_ | refine n_bback ?_ | refine n_back ?_ | refine n_out ?_ | refine n_bout rfl ?_ | refine n_bfar rfl ?_ | refine n_ret ?_ | refine n_exit ?_ | refine n_label ?_ | refine n_scope ?_ | refine n_son ?_ | refine n_sback ?_) | (with_reducible (first | apply n_region | apply d_region); (simp only [JV, JU, JW, Nat.reduceAdd, Nat.zero_add]; exact rfl)) | (with_reducible (first | apply s_op | apply n_guard | apply n_cond | apply d_guard | apply d_op | apply n_fin | apply n_finb); (simp (maxDischargeDepth := 6) only [sy3.1, zY, qG, qP, qQ, qR, qS, qT, rowAt, ↓jg, ↓ji, Nat.reduceAdd, Nat.reduceEqDiff, ne_eq, jG, Nat.reduceLT, if_true, ite_true, Int.reduceLE, Int.reduceLT, Int.reduceEq, Int.reduceNeg, Int.reduceAdd, Nat.reduceSub, if_false, ite_false, fs_26.1, g0, g10, g11, g12, hw1, kind_pure, kind_load, kind_fresh, kind_other, jg, ji, undef]; first | exact rfl | exact ⟨rfl, rfl, rfl, rfl⟩); try (with_reducible refine calmK_in ?_; decide +kernel)))
      refine ⟨r.length, by omega, d ++ [x], r, _, _, _, some (N9 + 17), by rw [hdr, List.append_assoc]; rfl, rfl, rfl, by omega, fun y hy hyi => ?_, ?_, ?_, fun q e => by cases e; omega, ?_, ?_, ?_, ?_, ?_⟩
      · rw [hk2 y (by omega) (fun e => by rcases p4 with ⟨h, _⟩ | ⟨q, h, hq, _⟩ <;> rw [h] at e <;> cases e; omega)]
        (repeat (first | rw [qE] | rw [qF _ _ _ _ (by omega)]))
        exact p3 y hy hyi
      · rw [hk2 i (by omega) (fun e => by rcases p4 with ⟨h, _⟩ | ⟨q, h, hq, _⟩ <;> rw [h] at e <;> cases e; omega)]
        (repeat (first | rw [qE] | rw [qF _ _ _ _ (by omega)]))
        exact pi
      · rw [List.map_append]
        exact .inr ⟨_, rfl, by omega, by simp, hfid⟩
      · simp only [qC, qD, qE, qF, Tr.get_nil, ne_eq, not_false_eq_true, Nat.reduceEqDiff, g0]
      · simp only [qC, qD, qE, qF, Tr.get_nil, ne_eq, not_false_eq_true, Nat.reduceEqDiff]
        rw [List.length_append]; rfl
      · simp only [qC, qD, qE, qF, Tr.get_nil, ne_eq, not_false_eq_true, Nat.reduceEqDiff, g10]
      · simp only [qC, qD, qE, qF, Tr.get_nil, ne_eq, not_false_eq_true, Nat.reduceEqDiff, g11]
      · simp only [qC, qD, qE, qF, Tr.get_nil, ne_eq, not_false_eq_true, Nat.reduceEqDiff]; rw [List.length_append]; rfl
  · rintro e1 H1 ⟨o9, N9, lg9, a1, rfl, p1, p3, p4, p5, g5⟩
    refine n_bout rfl ?_
    refine n_on ?_
    repeat (first | with_reducible (first | refine n_on ?_ | refine n_seq ?_ | refine s_else ?_ | refine n_t ?_ | refine n_gt ?_ | refine d_t ?_ | refine n_nil ?_ | refine d_nil ?_ | refine n_block ?_ | refine n_skip ?_ | refine n_bon ?_ | refine n_bback ?_ | refine n_back ?_ | refine n_out ?_ | refine n_bout rfl ?_ | refine n_bfar rfl ?_ | refine n_ret ?_ | refine n_exit ?_ | refine n_label ?_ | refine n_scope ?_ | refine n_son ?_ | refine n_sback ?_) | (with_reducible (first | apply n_region | apply d_region); (simp only [JV, JU, JW, Nat.reduceAdd, Nat.zero_add]; exact rfl)) | (with_reducible (first | apply s_op | apply n_guard | apply n_cond | apply d_guard | apply d_op | apply n_fin | apply n_finb); (simp (maxDischargeDepth := 6) only [sy3.1, zY, qG, qP, qQ, qR, qS, qT, rowAt, ↓jg, ↓ji, Nat.reduceAdd, Nat.reduceEqDiff, ne_eq, jG, Nat.reduceLT, if_true, ite_true, Int.reduceLE, Int.reduceLT, Int.reduceEq, Int.reduceNeg, Int.reduceAdd, Nat.reduceSub, if_false, ite_false, fs_26.1, g5, kind_pure, kind_load, kind_fresh, kind_other, jg, ji, undef]; first | exact rfl | exact ⟨rfl, rfl, rfl, rfl⟩); try (with_reducible refine calmK_in ?_; decide +kernel)))
    rcases p4 with ⟨rfl, e⟩ | ⟨q, rfl, hq, hne, hrw⟩
    · rw [List.map_eq_nil_iff] at e
      rw [e] at h0
      exact absurd h0 (by decide)
    · exact new_end (show Nat.blt q nx = false from blt_no hq) fun l' _ _ => ⟨q, o9, _, l', rfl, hq, by have := p5 q rfl; omega, hrw, p3⟩
theorem y_once {P : Program} {call : CallFn} {fuel : Nat} {c : Code} {env : Tr Value} {H : AHeap} {Q : Way × Tr Value × AHeap → Prop} {f : Nat} (h : Got (rCode P call fuel c env H) (onTo Q fun e h => Got (loopN (rCode P call fuel c) Way.isOn f e h) Q)) : Got (loopN (rCode P call fuel c) Way.isOn (f + 1) env H) Q := by
  obtain ⟨⟨w, e, h1⟩, hr, hq⟩ := h
  simp only [loopN, hr]
  cases w with
  | on => simp only [Way.isOn, cond]; exact hq
  | out i => simp only [Way.isOn, cond, qL]; exact hq
  | back => simp only [Way.isOn, cond, qL]; exact hq
theorem sort_nil {O : Helps} {n : Nat} (hS : O 41 = some sortFn) : ∀ (o : Tr AObj) (nx : Nat) (lg : List Nat),
    oCall Try.prog [] O (n + 1) 41 [.slice none 0 0] ⟨o, nx, lg⟩ = some (.tuple #[], ⟨o, nx, lg⟩) := by
  intro o nx lg
  simp only [oCall, hS]
  rfl
set_option maxHeartbeats 16000000 in
theorem values_nil (hO : Clear O) (hS : O 41 = some sortFn) (a : Option Addr) : oCall Try.prog [] O (n + 2) 26 [.pointer a, .slice none 0 0] ⟨o, nx, lg⟩ = some (.slice none 0 0, ⟨o, nx, lg⟩) := by
  refine of_got ?_
  have hsort := sort_nil (n := n) hS
  have l0 : decide ((0 : Int) < Int.ofNat 0) = false := by decide
  rw [y_fn (rs := [.tmp 4]) (hO _ (by decide)) Try.func26 rfl (by kernel_rfl) rfl rfl]
  repeat (first | with_reducible (first | refine n_on ?_ | refine n_seq ?_ | refine s_else ?_ | refine n_t ?_ | refine n_gt ?_ | refine d_t ?_ | refine n_nil ?_ | refine d_nil ?_ | refine n_block ?_ | refine n_skip ?_ | refine n_bon ?_ | refine n_bback ?_ | refine n_back ?_ | refine n_out ?_ | refine n_bout rfl ?_ | refine n_bfar rfl ?_ | refine n_ret ?_ | refine n_exit ?_ | refine n_label ?_ | refine n_scope ?_ | refine n_son ?_ | refine n_sback ?_) | (with_reducible (first | apply n_region | apply d_region); (simp only [JV, JU, JW, Nat.reduceAdd, Nat.zero_add]; exact rfl)) | (with_reducible (first | apply s_op | apply n_guard | apply n_cond | apply d_guard | apply d_op | apply n_fin | apply n_finb); (simp (maxDischargeDepth := 6) only [sy3.1, zY, qG, qP, qQ, qR, qS, qT, rowAt, ↓jg, ↓ji, Nat.reduceAdd, Nat.reduceEqDiff, ne_eq, jG, Nat.reduceLT, if_true, ite_true, Int.reduceLE, Int.reduceLT, Int.reduceEq, Int.reduceNeg, Int.reduceAdd, Nat.reduceSub, if_false, ite_false, fs_26.1, hsort, kind_pure, kind_load, kind_fresh, kind_other, jg, ji, undef]; first | exact rfl | exact ⟨rfl, rfl, rfl, rfl⟩); try (with_reducible refine calmK_in ?_; decide +kernel)))
  rw [y_loop_eq]
  refine y_once ?_
  repeat (first | with_reducible (first | refine n_on ?_ | refine n_seq ?_ | refine s_else ?_ | refine n_t ?_ | refine n_gt ?_ | refine d_t ?_ | refine n_nil ?_ | refine d_nil ?_ | refine n_block ?_ | refine n_skip ?_ | refine n_bon ?_ | refine n_bback ?_ | refine n_back ?_ | refine n_out ?_ | refine n_bout rfl ?_ | refine n_bfar rfl ?_ | refine n_ret ?_ | refine n_exit ?_ | refine n_label ?_ | refine n_scope ?_ | refine n_son ?_ | refine n_sback ?_) | (with_reducible (first | apply n_region | apply d_region); (simp only [JV, JU, JW, Nat.reduceAdd, Nat.zero_add]; exact rfl)) | (with_reducible (first | apply s_op | apply n_guard | apply n_cond | apply d_guard | apply d_op | apply n_fin | apply n_finb); (simp (maxDischargeDepth := 6) only [sy3.1, zY, qG, qP, qQ, qR, qS, qT, rowAt, ↓jg, ↓ji, Nat.reduceAdd, Nat.reduceEqDiff, ne_eq, jG, Nat.reduceLT, if_true, ite_true, Int.reduceLE, Int.reduceLT, Int.reduceEq, Int.reduceNeg, Int.reduceAdd, Nat.reduceSub, if_false, ite_false, fs_26.1, l0, kind_pure, kind_load, kind_fresh, kind_other, jg, ji, undef]; first | exact rfl | exact ⟨rfl, rfl, rfl, rfl⟩); try (with_reducible refine calmK_in ?_; decide +kernel)))
  exact Ja (by rfl) (by rfl)
end
end Go.Proofs.Ythnlkahgmbadoaa
