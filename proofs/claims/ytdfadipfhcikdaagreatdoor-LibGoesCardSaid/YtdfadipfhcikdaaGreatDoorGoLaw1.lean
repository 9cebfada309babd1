/- LibGoes: the table is filled: one round. -/
import Derived.Test.YtdfadipfhcikdaaGreatDoorGoLaw0
namespace Go.Proofs.YtdfadipfhcikdaaGreatDoor
open Go.RowKit
set_option linter.unusedSimpArgs false
set_option linter.unusedVariables false
set_option maxRecDepth 100000

def goW (f : Func) : Code := sqR (sqR (sqR (sqR (sqR (sqR (sqR (bodyOf f)))))))
def goL1 (f : Func) : Code := lpIn (blkIn (sqR (sqL (goW f))))
def goB1 (f : Func) : Code := sqL (sqR (goL1 f))
/-- the law's memory -/
structure GoIn (bs : List Bool) (bi b5 : Nat) (ks : List Nat) (o : Tr AObj) (nx : Nat) (w : Nat → Nat) (B : HB) (a7 : Option Nat) : Prop where
  heap : HeapIn o nx w B (hsG ks)
  hB : B.i = bi
  w0 : w 0 = 0
  row : o.get 0 = some (.row (bs.map Value.bool) 0 1 false)
  w5 : w b5 = 0
  lt5 : b5 < nx
  p5 : 0 < b5
  r5 : o.get b5 = some (.row [.int .u8 5, .int .i64 1] 29 0 true)
  want : (a7 = none ∧ ks = []) ∨ ∃ j, a7 = some j ∧ 0 < j ∧ j ≠ b5 ∧ j < nx ∧ w j = 0 ∧ o.get j = some (.row (vvCells (wantL ks)) 29 2 true)
structure GoE (len : Nat) (oa : Option Addr) (bi b5 : Nat) (ks : List Nat) (a7 : Option Nat) (rw : Nat) (wh : Bool) (i : Nat) (e : Tr Value) : Prop where
  g0 : e.get 0 = some (.slice oa len 0)
  g3 : e.get 3 = some (.pointer (some ⟨bi, 0, none⟩))
  g5 : e.get 5 = some (.pointer (some ⟨b5, 0, none⟩))
  g7 : e.get 7 = some (.slice (slA a7) (2 * ks.length) 0)
  g8 : e.get 8 = some (.int .i64 (.ofNat rw))
  g9 : e.get 9 = some (.bool wh)
  g10 : e.get 10 = some (.int .i64 (.ofNat i))
theorem GoIn.more {bs : List Bool} {bi b5 : Nat} {ks : List Nat} {o : Tr AObj} {nx : Nat} {w : Nat → Nat} {B : HB} {a7 : Option Nat} (h : GoIn bs bi b5 ks o nx w B a7) {o' : Tr AObj} {nx' : Nat} (hn : nx ≤ nx') (hk : ∀ x, x < nx → o'.get x = o.get x) : GoIn bs bi b5 ks o' nx' w B a7 :=
  ⟨h.heap.more hn hk, h.hB, h.w0, (hk 0 (by have := h.lt5; omega)).trans h.row, h.w5, Nat.lt_of_lt_of_le h.lt5 hn, h.p5, (hk _ h.lt5).trans h.r5, h.want.imp id fun ⟨j, q1, q2, q3, q4, q5, q6⟩ => ⟨j, q1, q2, q3, by omega, q5, (hk j q4).trans q6⟩⟩
def GoSt (bs : List Bool) (oa : Option Addr) (bi b5 i m : Nat) (e : Tr Value) (H : AHeap) : Prop :=
  ∃ o nx lg w B a7, H = (⟨o, nx, lg⟩ : AHeap) ∧ GoIn bs bi b5 (kOf bs m) o nx w B a7 ∧ GoE bs.length oa bi b5 (kOf bs m) a7 (rOf bs m) (wOf bs m) i e
/-- what Set leaves -/
def SetG (o : Tr AObj) (nx : Nat) (w : Nat → Nat) (B : HB) (ks : List Nat) (r : Value × AHeap) : Prop :=
  ∃ o1 nx1 lg1 w1 B1, r = (.int .i64 0, ⟨o1, nx1, lg1⟩) ∧ nx ≤ nx1 ∧ HeapIn o1 nx1 w1 B1 (hsG ks) ∧ B1.i = B.i ∧ (∀ x, x < nx → w x = 0 → o1.get x = o.get x ∧ w1 x = 0) ∧ ∃ x, x ∈ lg1 ∧ w x ≠ 0
section
variable {O : Helps} {n : Nat} {o : Tr AObj} {nx : Nat} {lg : List Nat} {w : Nat → Nat} {B : HB}
theorem hset_G (hO : Clear O) {ks : List Nat} (h : HeapIn o nx w B (hsG ks)) {i : Nat} (hi : i ∉ ks) (hl : ks.length < 100) (hn : 1000 ≤ n) :
    Got (oCall Tryz.prog [] O (n + 5) 6 [.pointer (some ⟨B.i, 0, none⟩), .agg #[.int .u8 5, .int .i64 1], .agg #[.int .u8 3, .int .i64 (Int.ofNat i + 1)], .agg #[.int .u8 3, .int .i64 (Int.ofNat i + 50)]] ⟨o, nx, lg⟩) (SetG o nx w B (ks ++ [i])) := by
  have e := set_G hi (by omega)
  have h1 := hset_ok (lg := lg) hO h (good_G (by omega)) (5, 1) (3, Int.ofNat i + 1) (3, Int.ofNat i + 50) (by show (0 : Int) ≤ 3; decide) (n := n) (by show 1 < n; omega) (fun ob ho => by
    rw [ofO_G] at ho
    cases ho
    have hlen : (obG ks).tab.length = ks.length := entK_len ks
    refine ⟨by omega, by omega, fun _ => ?_⟩
    have ht : setL (obG ks).tab (3, Int.ofNat i + 1) (3, Int.ofNat i + 50) = entK (ks ++ [i]) := setL_K hi
    rw [ht, liveN_K, resize_K ks _ (by omega) (by simp; omega)])
  rw [e] at h1
  refine h1.mono ?_
  rintro r ⟨o1, nx1, lg1, w1, B1, rfl, hn1, hH, hB, hfr, hmo, hl2⟩
  refine ⟨o1, nx1, lg1, w1, B1, rfl, hn1, hH, hB, hfr, ?_⟩
  rcases hl2 with hl2 | ⟨_, _, _, _, _, hh⟩
  · exact hl2
  · exfalso
    have := congrArg (fun q => q.objs.map fun p => p.2.tab.length) hh
    have a1 : ((hsG (ks ++ [i])).objs.map fun p => p.2.tab.length) = [(ks ++ [i]).length] := by rw [← entK_len]; rfl
    have a2 : ((hsG ks).objs.map fun p => p.2.tab.length) = [ks.length] := by rw [← entK_len]; rfl
    simp only [a1, a2, List.length_append, List.length_cons, List.length_nil, List.cons.injEq, and_true] at this
    omega
theorem setG_loud {ρ : Operand → Value} {fid : Nat} {H0 : AHeap} {op : Op} {ks : List Nat} {f : Operand} {ar : Array Operand} {ts : Array TypeId} (ho : op = .call { callee := .value f, args := ar, argTypes := ts }) : ∀ r, SetG o nx w B ks r → kindOf (zY ρ fid H0 r.2 op) = 4 := by
  rintro r ⟨o1, nx1, lg1, w1, B1, rfl, _, _, _, _, x, hx, _⟩
  subst ho
  show cond lg1.isEmpty (cond (Nat.beq _ nx1 && lg1.isEmpty) 2 3) 4 = 4
  cases lg1 with
  | nil => cases hx
  | cons y ys => rfl
set_option maxHeartbeats 64000000 in
/-- one round's body -/
theorem go_b1 (hO : Clear O) {bs : List Bool} {oa : Option Addr} {bi b5 i : Nat} {a7 : Option Nat} {e : Tr Value} {b : Bool} (M : GoIn bs bi b5 (kOf bs i) o nx w B a7) (E : GoE bs.length oa bi b5 (kOf bs i) a7 (rOf bs i) (wOf bs i) i e) (hoa : oa = some ⟨0, 0, none⟩) (hb : bs[i]? = some b) (hi : i < 20) :
    Got (rCode Tryz.prog (oCall Tryz.prog [] O 9999) 9999 (goB1 Tryz.f3) e ⟨o, nx, lg⟩) fun s => ∃ e' H', s = (.on, e', H') ∧ GoSt bs oa bi b5 i (i + 1) e' H' := by
  subst hoa
  have g0 := E.g0; have g3 := E.g3; have g5 := E.g5; have g7 := E.g7; have g8 := E.g8; have g9 := E.g9; have g10 := E.g10
  have hrow := M.row
  have hil := (List.getElem?_eq_some_iff.1 hb).1
  have l1 : Nat.blt i bs.length = true := by rw [Nat.blt_eq]; exact hil
  have hz : (bs.map Value.bool)[i]? = some (.bool b) := by rw [List.getElem?_map, hb]; rfl
  refine n_block ?_
  cases b with
  | true =>
    repeat (first | with_reducible (first | refine n_on ?_ | refine n_seq ?_ | refine s_else ?_ | refine n_t ?_ | refine n_gt ?_ | refine d_t ?_ | refine n_nil ?_ | refine d_nil ?_ | refine n_block ?_ | refine n_skip ?_ | refine n_bon ?_ | refine n_bback ?_ | refine n_back ?_ | refine n_out ?_ | refine n_bout rfl ?_ | refine n_bfar rfl ?_ | refine n_ret ?_ | refine n_exit ?_ | refine n_label ?_ | refine n_scope ?_ | refine n_son ?_ | refine n_sback ?_) | (with_reducible (first | apply n_region | apply d_region); (simp only [JV, JU, JW, Nat.reduceAdd, Nat.zero_add]; exact rfl)) | (with_reducible (first | apply s_op | apply n_guard | apply n_cond | apply d_guard | apply d_op | apply n_fin | apply n_finb); (simp (maxDischargeDepth := 6) only [sy3.1, zY, qG, qP, qQ, qR, qS, qT, rowAt, ↓jg, ↓ji, Nat.reduceAdd, Nat.reduceEqDiff, ne_eq, jG, Nat.reduceLT, if_true, ite_true, Int.reduceLE, Int.reduceLT, Int.reduceEq, Int.reduceNeg, Int.reduceAdd, Nat.reduceSub, if_false, ite_false, fs_3.1, g0, g10, hrow, hz, l1, indexAt, Option.isNone_none, Nat.mul_one, Nat.zero_add, kind_pure, kind_load, kind_fresh, kind_other, jg, ji, undef]; first | exact rfl | exact ⟨rfl, rfl, rfl, rfl⟩); try (with_reducible refine calmK_in ?_; decide +kernel)))
    refine ⟨_, _, rfl, o, _, lg, w, B, a7, rfl, ?_, ?_⟩
    · rw [kOf_hole hb]; exact M.more (by omega) fun _ _ => rfl
    · rw [kOf_hole hb, rOf_succ hb, wOf_succ hb]
      refine ⟨?_, ?_, ?_, ?_, ?_, ?_, ?_⟩ <;> simp only [qC, qD, qE, qF, Tr.get_nil, ne_eq, not_false_eq_true, Nat.reduceEqDiff, g0, g3, g5, g7, g8, g9, g10, Bool.not_true, Bool.and_false, Bool.false_eq_true, if_false]
  | false =>
    have r5 := M.r5; have lt5 := M.lt5
    have w1 : IntKind.i64.wrap (Int.ofNat i + 1) = Int.ofNat i + 1 := IntWalk.i64_in _ (by simp only [Int.ofNat_eq_natCast]; omega)
    have w50 : IntKind.i64.wrap (Int.ofNat i + 50) = Int.ofNat i + 50 := IntWalk.i64_in _ (by simp only [Int.ofNat_eq_natCast]; omega)
    have q1 := fun (o : Tr AObj) (nx : Nat) (lg : List Nat) => wnum_ok (o := o) (nx := nx) (lg := lg) (n := 9998) hO (Int.ofNat i + 1)
    have q50 := fun (o : Tr AObj) (nx : Nat) (lg : List Nat) => wnum_ok (o := o) (nx := nx) (lg := lg) (n := 9998) hO (Int.ofNat i + 50)
    repeat (first | with_reducible (first | refine n_on ?_ | refine n_seq ?_ | refine s_else ?_ | refine n_t ?_ | refine n_gt ?_ | refine d_t ?_ | refine n_nil ?_ | refine d_nil ?_ | refine n_block ?_ | refine n_skip ?_ | refine n_bon ?_ | refine n_bback ?_ | refine n_back ?_ | refine n_out ?_ | refine n_bout rfl ?_ | refine n_bfar rfl ?_ | refine n_ret ?_ | refine n_exit ?_ | refine n_label ?_ | refine n_scope ?_ | refine n_son ?_ | refine n_sback ?_) | (with_reducible (first | apply n_region | apply d_region); (simp only [JV, JU, JW, Nat.reduceAdd, Nat.zero_add]; exact rfl)) | (with_reducible (first | apply s_op | apply n_guard | apply n_cond | apply d_guard | apply d_op | apply n_fin | apply n_finb); (simp (maxDischargeDepth := 6) only [sy3.1, zY, qG, qP, qQ, qR, qS, qT, rowAt, ↓jg, ↓ji, Nat.reduceAdd, Nat.reduceEqDiff, ne_eq, jG, Nat.reduceLT, if_true, ite_true, Int.reduceLE, Int.reduceLT, Int.reduceEq, Int.reduceNeg, Int.reduceAdd, Nat.reduceSub, if_false, ite_false, fs_3.1, g0, g3, g5, g10, hrow, hz, l1, r5, lt5, w1, w50, q1, q50, indexAt, Option.isNone_none, Nat.mul_one, Nat.zero_add, kind_pure, kind_load, kind_fresh, kind_other, jg, ji, undef]; first | exact rfl | exact ⟨rfl, rfl, rfl, rfl⟩); try (with_reducible refine calmK_in ?_; decide +kernel)))
    have hni : i ∉ kOf bs i := fun hm => by have := kOf_lt hm; omega
    have hkl := kOf_len bs i
    refine d_do (SetG o (nx + 14) w B (kOf bs i ++ [i])) 4 (by
      simp (maxDischargeDepth := 6) only [sy3.1, zY, qG, qP, qQ, qR, qS, qT, rowAt, ↓jg, ↓ji, Nat.reduceAdd, Nat.reduceEqDiff, ne_eq, jG, Nat.reduceLT, if_true, ite_true, Int.reduceLE, Int.reduceLT, Int.reduceEq, Int.reduceNeg, Int.reduceAdd, Nat.reduceSub, if_false, ite_false, fs_3.1, g3, ← M.hB, w1, w50]
      exact hset_G (n := 9994) hO (M.heap.more (by omega) fun _ _ => rfl) hni (by omega) (by decide)) (setG_loud rfl) (by decide +kernel) ?_
    rintro v1 o1 nx1 l1' ⟨_, _, _, wa, B1, heq, hn1, hH1, hB1, hfr, _⟩ cl
    cases heq
    have hfr' : ∀ x, x < nx → w x = 0 → o1.get x = o.get x ∧ wa x = 0 := fun x hx hw => hfr x (by omega) hw
    have h5 := hfr' b5 lt5 M.w5
    have h0 := hfr' 0 (by omega) M.w0
    have hrw := rOf_succ hb
    have hww := wOf_succ hb
    have hkk := kOf_key hb
    have wr : IntKind.i64.wrap (Int.ofNat (rOf bs i) + 1) = Int.ofNat (rOf bs i + 1) := by
      have hr : rOf bs i ≤ i := by
        have h1 : rOf bs i ≤ (bs.take i).length := (List.takeWhile_prefix (fun b : Bool => !b)).length_le
        rw [List.length_take] at h1; omega
      have : Int.ofNat (rOf bs i) + 1 = Int.ofNat (rOf bs i + 1) := rfl
      rw [this]; exact IntWalk.i64_in _ (by simp only [Int.ofNat_eq_natCast]; omega)
    have fin : ∀ (e' : Tr Value) (o2 : Tr AObj) (nx2 : Nat) (lg2 : List Nat) (j' : Nat), nx1 ≤ j' → j' < nx2 → (∀ x, x < nx1 → a7 ≠ some x → o2.get x = o1.get x) → o2.get j' = some (.row (vvCells (wantL (kOf bs i)) ++ [.int .u8 3, .int .i64 (Int.ofNat i + 1), .int .u8 3, .int .i64 (Int.ofNat i + 50)]) 29 2 true) →
        e'.get 0 = e.get 0 → e'.get 3 = e.get 3 → e'.get 5 = e.get 5 → e'.get 10 = e.get 10 → e'.get 7 = some (.slice (some ⟨j', 0, none⟩) (2 * (kOf bs i).length + 2) 0) → e'.get 8 = some (.int .i64 (.ofNat (rOf bs (i + 1)))) → e'.get 9 = some (.bool (wOf bs i)) →
        ∃ e'' H', (Way.on, e', (⟨o2, nx2, lg2⟩ : AHeap)) = (.on, e'', H') ∧ GoSt bs (some ⟨0, 0, none⟩) bi b5 i (i + 1) e'' H' := by
      intro e' o2 nx2 lg2 j' hj1 hj2 hk hr a0 a3 a5 a10 a7' a8 a9
      have h07 : a7 ≠ some 0 := fun ee => by
        rcases M.want with ⟨h, _⟩ | ⟨j, h, hp, _⟩
        · rw [h] at ee; cases ee
        · rw [h] at ee; cases ee; omega
      have h57 : a7 ≠ some b5 := fun ee => by
        rcases M.want with ⟨h, _⟩ | ⟨j, h, _, hp, _⟩
        · rw [h] at ee; cases ee
        · rw [h] at ee; cases ee; exact hp rfl
      have hwa : ∀ x, nx ≤ x → w x = 0 := fun x hx => by
        by_cases ee : w x = 0
        · exact ee
        · have := M.heap.wlt x ee; omega
      have hwj : wa j' = 0 := by
        by_cases ee : wa j' = 0
        · exact ee
        · have := hH1.wlt _ ee; omega
      refine ⟨_, _, rfl, o2, nx2, lg2, wa, B1, some j', rfl, ?_, ?_⟩
      · rw [hkk]
        refine ⟨hH1.keep (by omega) (fun x hx => by have := hH1.wlt x hx; omega) fun x hx => ⟨hk x (hH1.wlt x hx) fun ee => ?_, rfl⟩, hB1.trans M.hB, h0.2, ?_, h5.2, by omega, M.p5, ?_, .inr ⟨j', rfl, by omega, by omega, hj2, hwj, ?_⟩⟩
        · rcases M.want with ⟨h, _⟩ | ⟨j, h, _, _, hlt, hw, _⟩
          · rw [h] at ee; cases ee
          · have e3 : j = x := Option.some.inj (h.symm.trans ee)
            exact hx (by rw [← e3]; exact (hfr' j hlt hw).2)
        · rw [hk 0 (by omega) h07, h0.1]; exact hrow
        · rw [hk b5 (by omega) h57, h5.1]; exact r5
        · rw [hr, wantL_app, vv_app]; rfl
      · rw [hkk]
        refine ⟨a0.trans g0, a3.trans g3, a5.trans g5, ?_, a8, ?_, a10.trans g10⟩
        · rw [a7']
          simp only [List.length_append, List.length_cons, List.length_nil, slA, Option.map_some]; rfl
        · rw [a9, hww]; simp
    rcases M.want with ⟨rfl, hk0⟩ | ⟨j, rfl, hj0, hj5, hjlt, hwj, hjr⟩
    · have hl0 : (kOf bs i).length = 0 := by rw [hk0]; rfl
      rw [hl0] at g7
      have han := vapp2_nil (a := .int .u8 3) (b := .int .i64 (Int.ofNat i + 1)) (c := .int .u8 3) (d := .int .i64 (Int.ofNat i + 50))
      cases hwh : wOf bs i with
      | true =>
        rw [hwh] at g9 hrw fin
        simp only [Bool.not_false, Bool.and_true, if_true, Bool.false_and, Bool.and_self, Bool.false_eq_true, if_false] at hrw
        repeat (first | with_reducible (first | refine n_on ?_ | refine n_seq ?_ | refine s_else ?_ | refine n_t ?_ | refine n_gt ?_ | refine d_t ?_ | refine n_nil ?_ | refine d_nil ?_ | refine n_block ?_ | refine n_skip ?_ | refine n_bon ?_ | refine n_bback ?_ | refine n_back ?_ | refine n_out ?_ | refine n_bout rfl ?_ | refine n_bfar rfl ?_ | refine n_ret ?_ | refine n_exit ?_ | refine n_label ?_ | refine n_scope ?_ | refine n_son ?_ | refine n_sback ?_) | (with_reducible (first | apply n_region | apply d_region); (simp only [JV, JU, JW, Nat.reduceAdd, Nat.zero_add]; exact rfl)) | (with_reducible (first | apply s_op | apply n_guard | apply n_cond | apply d_guard | apply d_op | apply n_fin | apply n_finb); (simp (maxDischargeDepth := 6) only [sy3.1, zY, qG, qP, qQ, qR, qS, qT, rowAt, ↓jg, ↓ji, Nat.reduceAdd, Nat.reduceEqDiff, ne_eq, jG, Nat.reduceLT, if_true, ite_true, Int.reduceLE, Int.reduceLT, Int.reduceEq, Int.reduceNeg, Int.reduceAdd, Nat.reduceSub, if_false, ite_false, fs_3.1, g7, g8, g9, g10, slA, Option.map_none, Option.map_some, Nat.mul_zero, w1, w50, q1, q50, wr, st_buildSliceV, bs2, han, kind_pure, kind_load, kind_fresh, kind_other, jg, ji, undef]; first | exact rfl | exact ⟨rfl, rfl, rfl, rfl⟩); try (with_reducible refine calmK_in ?_; decide +kernel)))
        exact fin _ _ _ _ (nx1 + 8) (by omega) (by omega) (fun x hx hxa => by (repeat (first | rw [qE] | rw [qF _ _ _ _ (by omega)]))) (by rw [hk0]; exact qE _ _ _) (by simp only [qC, qD, qE, qF, Tr.get_nil, ne_eq, not_false_eq_true, Nat.reduceEqDiff]) (by simp only [qC, qD, qE, qF, Tr.get_nil, ne_eq, not_false_eq_true, Nat.reduceEqDiff]) (by simp only [qC, qD, qE, qF, Tr.get_nil, ne_eq, not_false_eq_true, Nat.reduceEqDiff]) (by simp only [qC, qD, qE, qF, Tr.get_nil, ne_eq, not_false_eq_true, Nat.reduceEqDiff]) (by simp only [qC, qD, qE, qF, Tr.get_nil, ne_eq, not_false_eq_true, Nat.reduceEqDiff]; rw [hl0]) (by simp only [qC, qD, qE, qF, Tr.get_nil, ne_eq, not_false_eq_true, Nat.reduceEqDiff, g8, hrw]) (by simp only [qC, qD, qE, qF, Tr.get_nil, ne_eq, not_false_eq_true, Nat.reduceEqDiff, g9])
      | false =>
        rw [hwh] at g9 hrw fin
        simp only [Bool.not_false, Bool.and_true, if_true, Bool.false_and, Bool.and_self, Bool.false_eq_true, if_false] at hrw
        repeat (first | with_reducible (first | refine n_on ?_ | refine n_seq ?_ | refine s_else ?_ | refine n_t ?_ | refine n_gt ?_ | refine d_t ?_ | refine n_nil ?_ | refine d_nil ?_ | refine n_block ?_ | refine n_skip ?_ | refine n_bon ?_ | refine n_bback ?_ | refine n_back ?_ | refine n_out ?_ | refine n_bout rfl ?_ | refine n_bfar rfl ?_ | refine n_ret ?_ | refine n_exit ?_ | refine n_label ?_ | refine n_scope ?_ | refine n_son ?_ | refine n_sback ?_) | (with_reducible (first | apply n_region | apply d_region); (simp only [JV, JU, JW, Nat.reduceAdd, Nat.zero_add]; exact rfl)) | (with_reducible (first | apply s_op | apply n_guard | apply n_cond | apply d_guard | apply d_op | apply n_fin | apply n_finb); (simp (maxDischargeDepth := 6) only [sy3.1, zY, qG, qP, qQ, qR, qS, qT, rowAt, ↓jg, ↓ji, Nat.reduceAdd, Nat.reduceEqDiff, ne_eq, jG, Nat.reduceLT, if_true, ite_true, Int.reduceLE, Int.reduceLT, Int.reduceEq, Int.reduceNeg, Int.reduceAdd, Nat.reduceSub, if_false, ite_false, fs_3.1, g7, g8, g9, g10, slA, Option.map_none, Option.map_some, Nat.mul_zero, w1, w50, q1, q50, wr, st_buildSliceV, bs2, han, kind_pure, kind_load, kind_fresh, kind_other, jg, ji, undef]; first | exact rfl | exact ⟨rfl, rfl, rfl, rfl⟩); try (with_reducible refine calmK_in ?_; decide +kernel)))
        exact fin _ _ _ _ (nx1 + 8) (by omega) (by omega) (fun x hx hxa => by (repeat (first | rw [qE] | rw [qF _ _ _ _ (by omega)]))) (by rw [hk0]; exact qE _ _ _) (by simp only [qC, qD, qE, qF, Tr.get_nil, ne_eq, not_false_eq_true, Nat.reduceEqDiff]) (by simp only [qC, qD, qE, qF, Tr.get_nil, ne_eq, not_false_eq_true, Nat.reduceEqDiff]) (by simp only [qC, qD, qE, qF, Tr.get_nil, ne_eq, not_false_eq_true, Nat.reduceEqDiff]) (by simp only [qC, qD, qE, qF, Tr.get_nil, ne_eq, not_false_eq_true, Nat.reduceEqDiff]) (by simp only [qC, qD, qE, qF, Tr.get_nil, ne_eq, not_false_eq_true, Nat.reduceEqDiff]; rw [hl0]) (by simp only [qC, qD, qE, qF, Tr.get_nil, ne_eq, not_false_eq_true, Nat.reduceEqDiff, g8, hrw]) (by simp only [qC, qD, qE, qF, Tr.get_nil, ne_eq, not_false_eq_true, Nat.reduceEqDiff, g9])
    · have hj1 : j < nx1 := by omega
      have hj2 : o1.get j = some (.row (vvCells (wantL (kOf bs i))) 29 2 true) := (hfr' j hjlt hwj).1.trans hjr
      have hap := vapp2_row (a := .int .u8 3) (b := .int .i64 (Int.ofNat i + 1)) (c := .int .u8 3) (d := .int .i64 (Int.ofNat i + 50)) (by rfl) (olds := vvCells (wantL (kOf bs i))) (m := 2 * (kOf bs i).length) (j := j) (by rw [vv_len, wantL_len]) (by omega)
      cases hwh : wOf bs i with
      | true =>
        rw [hwh] at g9 hrw fin
        simp only [Bool.not_false, Bool.and_true, if_true, Bool.false_and, Bool.and_self, Bool.false_eq_true, if_false] at hrw
        repeat (first | with_reducible (first | refine n_on ?_ | refine n_seq ?_ | refine s_else ?_ | refine n_t ?_ | refine n_gt ?_ | refine d_t ?_ | refine n_nil ?_ | refine d_nil ?_ | refine n_block ?_ | refine n_skip ?_ | refine n_bon ?_ | refine n_bback ?_ | refine n_back ?_ | refine n_out ?_ | refine n_bout rfl ?_ | refine n_bfar rfl ?_ | refine n_ret ?_ | refine n_exit ?_ | refine n_label ?_ | refine n_scope ?_ | refine n_son ?_ | refine n_sback ?_) | (with_reducible (first | apply n_region | apply d_region); (simp only [JV, JU, JW, Nat.reduceAdd, Nat.zero_add]; exact rfl)) | (with_reducible (first | apply s_op | apply n_guard | apply n_cond | apply d_guard | apply d_op | apply n_fin | apply n_finb); (simp (maxDischargeDepth := 6) only [sy3.1, zY, qG, qP, qQ, qR, qS, qT, rowAt, ↓jg, ↓ji, Nat.reduceAdd, Nat.reduceEqDiff, ne_eq, jG, Nat.reduceLT, if_true, ite_true, Int.reduceLE, Int.reduceLT, Int.reduceEq, Int.reduceNeg, Int.reduceAdd, Nat.reduceSub, if_false, ite_false, fs_3.1, g7, g8, g9, g10, slA, Option.map_none, Option.map_some, Nat.mul_zero, w1, w50, q1, q50, wr, st_buildSliceV, bs2, hap, hj2, hj1, kind_pure, kind_load, kind_fresh, kind_other, jg, ji, undef]; first | exact rfl | exact ⟨rfl, rfl, rfl, rfl⟩); try (with_reducible refine calmK_in ?_; decide +kernel)))
        exact fin _ _ _ _ (nx1 + 8) (by omega) (by omega) (fun x hx hxa => by (have e3 : x ≠ j := fun ee => hxa (by rw [ee])); (repeat (first | rw [qE] | rw [qF _ _ _ _ (by omega)]))) (qE _ _ _) (by simp only [qC, qD, qE, qF, Tr.get_nil, ne_eq, not_false_eq_true, Nat.reduceEqDiff]) (by simp only [qC, qD, qE, qF, Tr.get_nil, ne_eq, not_false_eq_true, Nat.reduceEqDiff]) (by simp only [qC, qD, qE, qF, Tr.get_nil, ne_eq, not_false_eq_true, Nat.reduceEqDiff]) (by simp only [qC, qD, qE, qF, Tr.get_nil, ne_eq, not_false_eq_true, Nat.reduceEqDiff]) (by simp only [qC, qD, qE, qF, Tr.get_nil, ne_eq, not_false_eq_true, Nat.reduceEqDiff]) (by simp only [qC, qD, qE, qF, Tr.get_nil, ne_eq, not_false_eq_true, Nat.reduceEqDiff, g8, hrw]) (by simp only [qC, qD, qE, qF, Tr.get_nil, ne_eq, not_false_eq_true, Nat.reduceEqDiff, g9])
      | false =>
        rw [hwh] at g9 hrw fin
        simp only [Bool.not_false, Bool.and_true, if_true, Bool.false_and, Bool.and_self, Bool.false_eq_true, if_false] at hrw
        repeat (first | with_reducible (first | refine n_on ?_ | refine n_seq ?_ | refine s_else ?_ | refine n_t ?_ | refine n_gt ?_ | refine d_t ?_ | refine n_nil ?_ | refine d_nil ?_ | refine n_block ?_ | refine n_skip ?_ | refine n_bon ?_ | refine n_bback ?_ | refine n_back ?_ | refine n_out ?_ | refine n_bout rfl ?_ | refine n_bfar rfl ?_ | refine n_ret ?_ | refine n_exit ?_ | refine n_label ?_ | refine n_scope ?_ | refine n_son ?_ | refine n_sback ?_) | (with_reducible (first | apply n_region | apply d_region); (simp only [JV, JU, JW, Nat.reduceAdd, Nat.zero_add]; exact rfl)) | (with_reducible (first | apply s_op | apply n_guard | apply n_cond | apply d_guard | apply d_op | apply n_fin | apply n_finb); (simp (maxDischargeDepth := 6) only [sy3.1, zY, qG, qP, qQ, qR, qS, qT, rowAt, ↓jg, ↓ji, Nat.reduceAdd, Nat.reduceEqDiff, ne_eq, jG, Nat.reduceLT, if_true, ite_true, Int.reduceLE, Int.reduceLT, Int.reduceEq, Int.reduceNeg, Int.reduceAdd, Nat.reduceSub, if_false, ite_false, fs_3.1, g7, g8, g9, g10, slA, Option.map_none, Option.map_some, Nat.mul_zero, w1, w50, q1, q50, wr, st_buildSliceV, bs2, hap, hj2, hj1, kind_pure, kind_load, kind_fresh, kind_other, jg, ji, undef]; first | exact rfl | exact ⟨rfl, rfl, rfl, rfl⟩); try (with_reducible refine calmK_in ?_; decide +kernel)))
        exact fin _ _ _ _ (nx1 + 8) (by omega) (by omega) (fun x hx hxa => by (have e3 : x ≠ j := fun ee => hxa (by rw [ee])); (repeat (first | rw [qE] | rw [qF _ _ _ _ (by omega)]))) (qE _ _ _) (by simp only [qC, qD, qE, qF, Tr.get_nil, ne_eq, not_false_eq_true, Nat.reduceEqDiff]) (by simp only [qC, qD, qE, qF, Tr.get_nil, ne_eq, not_false_eq_true, Nat.reduceEqDiff]) (by simp only [qC, qD, qE, qF, Tr.get_nil, ne_eq, not_false_eq_true, Nat.reduceEqDiff]) (by simp only [qC, qD, qE, qF, Tr.get_nil, ne_eq, not_false_eq_true, Nat.reduceEqDiff]) (by simp only [qC, qD, qE, qF, Tr.get_nil, ne_eq, not_false_eq_true, Nat.reduceEqDiff]) (by simp only [qC, qD, qE, qF, Tr.get_nil, ne_eq, not_false_eq_true, Nat.reduceEqDiff, g8, hrw]) (by simp only [qC, qD, qE, qF, Tr.get_nil, ne_eq, not_false_eq_true, Nat.reduceEqDiff, g9])
end
end Go.Proofs.YtdfadipfhcikdaaGreatDoor
