/- Ints: a text of hex digits. -/
import Derived.Test.YtedfjfpnpncgkaaDoorIntsSkip
namespace Go.Proofs.YtedfjfpnpncgkaaDoor
open Go.RowKit
set_option linter.unusedSimpArgs false
set_option linter.unusedVariables false

theorem hexB_range (b : UInt8) : 0 ≤ (hexB b).1 ∧ (hexB b).1 < 16 := by
  unfold hexB
  split
  · rename_i h
    simp only [digitB, withinI, Bool.and_eq_true, decide_eq_true_eq] at h
    simp only; omega
  · split
    · rename_i h
      simp only [withinI, Bool.and_eq_true, decide_eq_true_eq] at h
      simp only; omega
    · split
      · rename_i h
        simp only [withinI, Bool.and_eq_true, decide_eq_true_eq] at h
        simp only; omega
      · simp
theorem hex_bits (A : W64) (d : Int) (h : 0 ≤ d ∧ d < 16) : IntKind.u64.wrap (Int.ofNat (BitVec.ofInt IntKind.u64.bits (IntKind.u64.wrap ((A.toNat : Int) * 2 ^ (min (4 : Int).toNat IntKind.u64.bits))) ||| BitVec.ofInt IntKind.u64.bits d).toNat) = ((A * 16#64 + BitVec.ofInt 64 d).toNat : Int) := by
  obtain ⟨k, rfl⟩ : ∃ k : Nat, d = k := ⟨d.toNat, by omega⟩
  have e1 : BitVec.ofInt IntKind.u64.bits (IntKind.u64.wrap ((A.toNat : Int) * 2 ^ (min (4 : Int).toNat IntKind.u64.bits))) = A <<< 4 := by
    show BitVec.ofInt 64 (IntKind.u64.wrap ((A.toNat : Int) * 16)) = A <<< 4
    rw [wrap_u64]
    apply BitVec.eq_of_toNat_eq
    rw [BitVec.ofInt_natCast, BitVec.toNat_ofNat, BitVec.toNat_ofInt, BitVec.toNat_shiftLeft, Nat.shiftLeft_eq]
    omega
  have e2 : BitVec.ofInt IntKind.u64.bits (k : Int) = BitVec.ofNat 64 k := BitVec.ofInt_natCast ..
  have e3 : BitVec.ofInt 64 (k : Int) = BitVec.ofNat 64 k := BitVec.ofInt_natCast ..
  rw [e1, e2, e3]
  have := hex_step A k (by omega)
  have e4 : ((A <<< 4 : W64) ||| BitVec.ofNat 64 k) = A * 16#64 + BitVec.ofNat 64 k := this
  rw [wrap_u64]
  show (((BitVec.ofInt 64 (((A <<< 4 : W64) ||| BitVec.ofNat 64 k).toNat : Int)).toNat : Int)) = _
  rw [e4, BitVec.ofInt_natCast, BitVec.ofNat_toNat, BitVec.setWidth_eq]
def hexRes (v : Option W64) (l : List UInt8) : Value := match v with
  | some A => .tuple #[.int .u64 (Int.ofNat A.toNat), .bool (!decide (l = []))]
  | none => .tuple #[.int .u64 0, .bool false]
def HexI (o : Tr AObj) (nx : Nat) (l : List UInt8) (m : Nat) (env : Tr Value) (H : AHeap) : Prop :=
  ∃ i A nx', i + m = l.length ∧ H = ⟨o, nx', []⟩ ∧ nx ≤ nx' ∧ env.get 0 = some (str l) ∧ env.get 4 = some (.int .u64 (Int.ofNat (A : W64).toNat)) ∧ env.get 9 = some (.int .i64 (Int.ofNat l.length)) ∧ env.get 10 = some (.int .i64 (Int.ofNat i)) ∧ hexV 0#64 l = hexV A (l.drop i)
section
variable {O : Helps} {n : Nat} {o : Tr AObj} {nx : Nat} {lg : List Nat}
set_option maxHeartbeats 4000000 in
theorem hexs_ok (hO : Clear O) (l : List UInt8) (hn : l.length < n) (hbig : l.length < 4611686018427387904) :
    oCall Tryd.prog gs2 O (n + 4) 23 [str l] ⟨o, nx, lg⟩ = some (hexRes (hexV 0#64 l) l, ⟨o, nx, lg⟩) := by
  have hx := fun o nx lg c => hex_ok hO (n := n) (o := o) (nx := nx) (lg := lg) c
  simp only [bv] at hx
  refine of_got ?_
  rw [y_fn (rs := [.tmp 2, .tmp 3]) (hO _ (by decide)) Tryd.func23 rfl (by kernel_rfl) rfl rfl]
  refine y_cut (I := fun e h => e.get 0 = some (str l) ∧ ∃ nx', h = ⟨o, nx', []⟩ ∧ nx ≤ nx') ?_ ?_
  · simp (maxDischargeDepth := 6) only [za, zb, zd, zg, zh, zj, zl, zm, zn, zp, zq, zr, zu, zw, zx, zy, zA, zB, zC, zD, zE, zF, zG, zH, zI, zJ, zK, zL, zM, zN, zO, zP, zQ, zR, zS, zT, zU, zV, zW, List.any_nil, zX, List.isEmpty_nil, Bool.true_or, Bool.or_true, zY, zZ, qb, qc, qd, qe, qf, qg, qh, qi, qj, qk, qo, qp, qr, qs, qt, qu, qx, qy, qz, qA, qB, qC, qD, qE, qF, Tr.get_nil, qG, qH, qI, qJ, qK, qL, qM, qN, qO, qP, qQ, qR, qS, qT, qU, qV, qW, qX, qY, qZ, ja, jb, jc, jd, rowAt, Option.getD_some, Option.getD_none, Option.bind_some, Option.bind_none, Option.map_some, Option.map_none, ↓jg, ↓ji, List.length_cons, List.length_nil, List.getElem?_cons_succ, List.getElem?_cons_zero, Nat.reduceAdd, Nat.reduceEqDiff, ne_eq, not_false_eq_true, Nat.add_zero, Nat.zero_add, Nat.add_assoc, List.map_cons, List.map_nil, List.nil_append, List.append_nil, List.cons_append, Bool.not_true, Bool.not_false, jk, jn, jo, jp, jq, jr, Nat.add_left_cancel_iff, js, List.all_nil, jt, ju, Bool.and_self, Bool.and_true, Bool.true_and, true_and, and_true, jv, jw, jx, jy, jz, jA, jB, jC, jD, jE, jF, jG, jH, jI, jJ, jK, jL, jM, jN, jO, jP, jQ, jR, jS, jT, jU, jV, jW, jX, jY, jZ, Ja, List.set_cons_zero, List.set_cons_succ, Nat.reduceLT, and_self, if_true, ite_true, List.size_toArray, Nat.lt_add_one, Nat.zero_lt_succ, List.getElem?_toArray, Jb, Jc, Jd, Je, Jf, Jg, Jh, Ji, Jj, Jk, Jl, Int.reduceLE, Int.reduceLT, Int.reduceEq, Int.reduceNeg, Int.reduceAdd, decide_true, decide_false, Jm, Jn, Jo, Jp, Jq, Jr, Bool.or_false, Bool.false_or, Bool.false_and, Bool.and_false, Bool.or_self, Js, Jt, Ju, Jv, Jw, Jx, Jy, Jz, JA, JB, JC, JD, JE, JF, JG, JH, JI, JJ, JK, JL, JM, JN, JO, JP, JQ, JR, JS, JT, JU, JV, JW, JX, JY, JZ, Nat.reduceSub, if_false, ite_false, lenV_string Tryd.underlying9, ixS_at Tryd.underlying9, calleeV_func _ _ _ co_32, cvS_int Tryd.underlying3 Tryd.underlying41]
    exact ⟨_, _, rfl, by simp only [qC, qD, qE, qF, Tr.get_nil, ne_eq, not_false_eq_true, Nat.reduceEqDiff, qG], _, rfl, by omega⟩
  rintro e0 H0 ⟨g0, nx0, rfl, hn0⟩
  refine y_cut (I := fun e h => e.get 0 = some (str l) ∧ e.get 4 = some (.int .u64 (Int.ofNat (0#64 : W64).toNat)) ∧ ∃ nx', h = ⟨o, nx', []⟩ ∧ nx ≤ nx') ?_ ?_
  · simp (maxDischargeDepth := 6) only [za, zb, zd, zg, zh, zj, zl, zm, zn, zp, zq, zr, zu, zw, zx, zy, zA, zB, zC, zD, zE, zF, zG, zH, zI, zJ, zK, zL, zM, zN, zO, zP, zQ, zR, zS, zT, zU, zV, zW, List.any_nil, zX, List.isEmpty_nil, Bool.true_or, Bool.or_true, zY, zZ, qb, qc, qd, qe, qf, qg, qh, qi, qj, qk, qo, qp, qr, qs, qt, qu, qx, qy, qz, qA, qB, qC, qD, qE, qF, Tr.get_nil, qG, qH, qI, qJ, qK, qL, qM, qN, qO, qP, qQ, qR, qS, qT, qU, qV, qW, qX, qY, qZ, ja, jb, jc, jd, rowAt, Option.getD_some, Option.getD_none, Option.bind_some, Option.bind_none, Option.map_some, Option.map_none, ↓jg, ↓ji, List.length_cons, List.length_nil, List.getElem?_cons_succ, List.getElem?_cons_zero, Nat.reduceAdd, Nat.reduceEqDiff, ne_eq, not_false_eq_true, Nat.add_zero, Nat.zero_add, Nat.add_assoc, List.map_cons, List.map_nil, List.nil_append, List.append_nil, List.cons_append, Bool.not_true, Bool.not_false, jk, jn, jo, jp, jq, jr, Nat.add_left_cancel_iff, js, List.all_nil, jt, ju, Bool.and_self, Bool.and_true, Bool.true_and, true_and, and_true, jv, jw, jx, jy, jz, jA, jB, jC, jD, jE, jF, jG, jH, jI, jJ, jK, jL, jM, jN, jO, jP, jQ, jR, jS, jT, jU, jV, jW, jX, jY, jZ, Ja, List.set_cons_zero, List.set_cons_succ, Nat.reduceLT, and_self, if_true, ite_true, List.size_toArray, Nat.lt_add_one, Nat.zero_lt_succ, List.getElem?_toArray, Jb, Jc, Jd, Je, Jf, Jg, Jh, Ji, Jj, Jk, Jl, Int.reduceLE, Int.reduceLT, Int.reduceEq, Int.reduceNeg, Int.reduceAdd, decide_true, decide_false, Jm, Jn, Jo, Jp, Jq, Jr, Bool.or_false, Bool.false_or, Bool.false_and, Bool.and_false, Bool.or_self, Js, Jt, Ju, Jv, Jw, Jx, Jy, Jz, JA, JB, JC, JD, JE, JF, JG, JH, JI, JJ, JK, JL, JM, JN, JO, JP, JQ, JR, JS, JT, JU, JV, JW, JX, JY, JZ, Nat.reduceSub, if_false, ite_false, lenV_string Tryd.underlying9, ixS_at Tryd.underlying9, calleeV_func _ _ _ co_32, cvS_int Tryd.underlying3 Tryd.underlying41]
    exact ⟨_, _, rfl, by simp only [qC, qD, qE, qF, Tr.get_nil, ne_eq, not_false_eq_true, Nat.reduceEqDiff, g0], by simp only [qC, qD, qE, qF, Tr.get_nil, ne_eq, not_false_eq_true, Nat.reduceEqDiff]; rfl, _, rfl, by omega⟩
  rintro e0 H0 ⟨g0, g4, nx1, rfl, hn1⟩
  rw [za]
  refine y_cut (I := HexI o nx l l.length) ?_ ?_
  · simp (maxDischargeDepth := 6) only [za, zb, zd, zg, zh, zj, zl, zm, zn, zp, zq, zr, zu, zw, zx, zy, zA, zB, zC, zD, zE, zF, zG, zH, zI, zJ, zK, zL, zM, zN, zO, zP, zQ, zR, zS, zT, zU, zV, zW, List.any_nil, zX, List.isEmpty_nil, Bool.true_or, Bool.or_true, zY, zZ, qb, qc, qd, qe, qf, qg, qh, qi, qj, qk, qo, qp, qr, qs, qt, qu, qx, qy, qz, qA, qB, qC, qD, qE, qF, Tr.get_nil, qG, qH, qI, qJ, qK, qL, qM, qN, qO, qP, qQ, qR, qS, qT, qU, qV, qW, qX, qY, qZ, ja, jb, jc, jd, rowAt, Option.getD_some, Option.getD_none, Option.bind_some, Option.bind_none, Option.map_some, Option.map_none, ↓jg, ↓ji, List.length_cons, List.length_nil, List.getElem?_cons_succ, List.getElem?_cons_zero, Nat.reduceAdd, Nat.reduceEqDiff, ne_eq, not_false_eq_true, Nat.add_zero, Nat.zero_add, Nat.add_assoc, List.map_cons, List.map_nil, List.nil_append, List.append_nil, List.cons_append, Bool.not_true, Bool.not_false, jk, jn, jo, jp, jq, jr, Nat.add_left_cancel_iff, js, List.all_nil, jt, ju, Bool.and_self, Bool.and_true, Bool.true_and, true_and, and_true, jv, jw, jx, jy, jz, jA, jB, jC, jD, jE, jF, jG, jH, jI, jJ, jK, jL, jM, jN, jO, jP, jQ, jR, jS, jT, jU, jV, jW, jX, jY, jZ, Ja, List.set_cons_zero, List.set_cons_succ, Nat.reduceLT, and_self, if_true, ite_true, List.size_toArray, Nat.lt_add_one, Nat.zero_lt_succ, List.getElem?_toArray, Jb, Jc, Jd, Je, Jf, Jg, Jh, Ji, Jj, Jk, Jl, Int.reduceLE, Int.reduceLT, Int.reduceEq, Int.reduceNeg, Int.reduceAdd, decide_true, decide_false, Jm, Jn, Jo, Jp, Jq, Jr, Bool.or_false, Bool.false_or, Bool.false_and, Bool.and_false, Bool.or_self, Js, Jt, Ju, Jv, Jw, Jx, Jy, Jz, JA, JB, JC, JD, JE, JF, JG, JH, JI, JJ, JK, JL, JM, JN, JO, JP, JQ, JR, JS, JT, JU, JV, JW, JX, JY, JZ, Nat.reduceSub, if_false, ite_false, lenV_string Tryd.underlying9, ixS_at Tryd.underlying9, calleeV_func _ _ _ co_32, cvS_int Tryd.underlying3 Tryd.underlying41, g0, JS]
    refine ⟨_, _, rfl, 0, 0#64, _, Nat.zero_add _, rfl, by omega, ?_, ?_, ?_, ?_, rfl⟩ <;> simp only [qC, qD, qE, qF, Tr.get_nil, ne_eq, not_false_eq_true, Nat.reduceEqDiff, g0, g4] <;> rfl
  rintro e1 H1 hI
  rw [zm, y_loop_eq]
  refine y_loop (I := HexI o nx l) ?_ _ _ _ _ hI (by omega)
  rintro m env H ⟨i, A, nx', hm, rfl, hnx, h0, h4, h9, h10, hh⟩
  by_cases hi : i < l.length
  · have hd : decide (i < l.length) = true := decide_eq_true hi
    have hb : l[i]? = some l[i] := List.getElem?_eq_getElem hi
    have hdr : l.drop i = l[i] :: l.drop (i + 1) := List.drop_eq_getElem_cons hi
    have hw := wrap_next i (by omega)
    obtain ⟨r1, r2⟩ := hexB_range l[i]
    have hwd : IntKind.u64.wrap (hexB l[i]).1 = (hexB l[i]).1 := IntWalk.u64_in _ (by omega)
    have hbits := hex_bits A (hexB l[i]).1 ⟨r1, r2⟩
    cases hk : (hexB l[i]).2 with
    | true =>
      rw [hdr, hexV, if_pos hk] at hh
      simp (maxDischargeDepth := 6) only [za, zb, zd, zg, zh, zj, zl, zm, zn, zp, zq, zr, zu, zw, zx, zy, zA, zB, zC, zD, zE, zF, zG, zH, zI, zJ, zK, zL, zM, zN, zO, zP, zQ, zR, zS, zT, zU, zV, zW, List.any_nil, zX, List.isEmpty_nil, Bool.true_or, Bool.or_true, zY, zZ, qb, qc, qd, qe, qf, qg, qh, qi, qj, qk, qo, qp, qr, qs, qt, qu, qx, qy, qz, qA, qB, qC, qD, qE, qF, Tr.get_nil, qG, qH, qI, qJ, qK, qL, qM, qN, qO, qP, qQ, qR, qS, qT, qU, qV, qW, qX, qY, qZ, ja, jb, jc, jd, rowAt, Option.getD_some, Option.getD_none, Option.bind_some, Option.bind_none, Option.map_some, Option.map_none, ↓jg, ↓ji, List.length_cons, List.length_nil, List.getElem?_cons_succ, List.getElem?_cons_zero, Nat.reduceAdd, Nat.reduceEqDiff, ne_eq, not_false_eq_true, Nat.add_zero, Nat.zero_add, Nat.add_assoc, List.map_cons, List.map_nil, List.nil_append, List.append_nil, List.cons_append, Bool.not_true, Bool.not_false, jk, jn, jo, jp, jq, jr, Nat.add_left_cancel_iff, js, List.all_nil, jt, ju, Bool.and_self, Bool.and_true, Bool.true_and, true_and, and_true, jv, jw, jx, jy, jz, jA, jB, jC, jD, jE, jF, jG, jH, jI, jJ, jK, jL, jM, jN, jO, jP, jQ, jR, jS, jT, jU, jV, jW, jX, jY, jZ, Ja, List.set_cons_zero, List.set_cons_succ, Nat.reduceLT, and_self, if_true, ite_true, List.size_toArray, Nat.lt_add_one, Nat.zero_lt_succ, List.getElem?_toArray, Jb, Jc, Jd, Je, Jf, Jg, Jh, Ji, Jj, Jk, Jl, Int.reduceLE, Int.reduceLT, Int.reduceEq, Int.reduceNeg, Int.reduceAdd, decide_true, decide_false, Jm, Jn, Jo, Jp, Jq, Jr, Bool.or_false, Bool.false_or, Bool.false_and, Bool.and_false, Bool.or_self, Js, Jt, Ju, Jv, Jw, Jx, Jy, Jz, JA, JB, JC, JD, JE, JF, JG, JH, JI, JJ, JK, JL, JM, JN, JO, JP, JQ, JR, JS, JT, JU, JV, JW, JX, JY, JZ, Nat.reduceSub, if_false, ite_false, lenV_string Tryd.underlying9, ixS_at Tryd.underlying9, calleeV_func _ _ _ co_32, cvS_int Tryd.underlying3 Tryd.underlying41, h0, h4, h9, h10, hd, hb, hx, hk, hwd, hw]
      refine ⟨m - 1, by omega, i + 1, _, _, by omega, rfl, by omega, ?_, ?_, ?_, ?_, hh⟩ <;> simp only [qC, qD, qE, qF, Tr.get_nil, ne_eq, not_false_eq_true, Nat.reduceEqDiff, h0, h9]
      exact congrArg (fun z => some (Value.int .u64 z)) hbits
    | false =>
      rw [hdr, hexV, if_neg (by rw [hk]; simp)] at hh
      rw [hh]
      simp (maxDischargeDepth := 6) only [za, zb, zd, zg, zh, zj, zl, zm, zn, zp, zq, zr, zu, zw, zx, zy, zA, zB, zC, zD, zE, zF, zG, zH, zI, zJ, zK, zL, zM, zN, zO, zP, zQ, zR, zS, zT, zU, zV, zW, List.any_nil, zX, List.isEmpty_nil, Bool.true_or, Bool.or_true, zY, zZ, qb, qc, qd, qe, qf, qg, qh, qi, qj, qk, qo, qp, qr, qs, qt, qu, qx, qy, qz, qA, qB, qC, qD, qE, qF, Tr.get_nil, qG, qH, qI, qJ, qK, qL, qM, qN, qO, qP, qQ, qR, qS, qT, qU, qV, qW, qX, qY, qZ, ja, jb, jc, jd, rowAt, Option.getD_some, Option.getD_none, Option.bind_some, Option.bind_none, Option.map_some, Option.map_none, ↓jg, ↓ji, List.length_cons, List.length_nil, List.getElem?_cons_succ, List.getElem?_cons_zero, Nat.reduceAdd, Nat.reduceEqDiff, ne_eq, not_false_eq_true, Nat.add_zero, Nat.zero_add, Nat.add_assoc, List.map_cons, List.map_nil, List.nil_append, List.append_nil, List.cons_append, Bool.not_true, Bool.not_false, jk, jn, jo, jp, jq, jr, Nat.add_left_cancel_iff, js, List.all_nil, jt, ju, Bool.and_self, Bool.and_true, Bool.true_and, true_and, and_true, jv, jw, jx, jy, jz, jA, jB, jC, jD, jE, jF, jG, jH, jI, jJ, jK, jL, jM, jN, jO, jP, jQ, jR, jS, jT, jU, jV, jW, jX, jY, jZ, Ja, List.set_cons_zero, List.set_cons_succ, Nat.reduceLT, and_self, if_true, ite_true, List.size_toArray, Nat.lt_add_one, Nat.zero_lt_succ, List.getElem?_toArray, Jb, Jc, Jd, Je, Jf, Jg, Jh, Ji, Jj, Jk, Jl, Int.reduceLE, Int.reduceLT, Int.reduceEq, Int.reduceNeg, Int.reduceAdd, decide_true, decide_false, Jm, Jn, Jo, Jp, Jq, Jr, Bool.or_false, Bool.false_or, Bool.false_and, Bool.and_false, Bool.or_self, Js, Jt, Ju, Jv, Jw, Jx, Jy, Jz, JA, JB, JC, JD, JE, JF, JG, JH, JI, JJ, JK, JL, JM, JN, JO, JP, JQ, JR, JS, JT, JU, JV, JW, JX, JY, JZ, Nat.reduceSub, if_false, ite_false, lenV_string Tryd.underlying9, ixS_at Tryd.underlying9, calleeV_func _ _ _ co_32, cvS_int Tryd.underlying3 Tryd.underlying41, h0, h4, h9, h10, hd, hb, hx, hk, hwd, hw, hexRes]
      exact Ja (by rfl) (by rfl)
  · have hd : decide (i < l.length) = false := decide_eq_false hi
    rw [show l.drop i = [] from List.drop_eq_nil_of_le (by omega), hexV] at hh
    rw [hh]
    simp (maxDischargeDepth := 6) only [za, zb, zd, zg, zh, zj, zl, zm, zn, zp, zq, zr, zu, zw, zx, zy, zA, zB, zC, zD, zE, zF, zG, zH, zI, zJ, zK, zL, zM, zN, zO, zP, zQ, zR, zS, zT, zU, zV, zW, List.any_nil, zX, List.isEmpty_nil, Bool.true_or, Bool.or_true, zY, zZ, qb, qc, qd, qe, qf, qg, qh, qi, qj, qk, qo, qp, qr, qs, qt, qu, qx, qy, qz, qA, qB, qC, qD, qE, qF, Tr.get_nil, qG, qH, qI, qJ, qK, qL, qM, qN, qO, qP, qQ, qR, qS, qT, qU, qV, qW, qX, qY, qZ, ja, jb, jc, jd, rowAt, Option.getD_some, Option.getD_none, Option.bind_some, Option.bind_none, Option.map_some, Option.map_none, ↓jg, ↓ji, List.length_cons, List.length_nil, List.getElem?_cons_succ, List.getElem?_cons_zero, Nat.reduceAdd, Nat.reduceEqDiff, ne_eq, not_false_eq_true, Nat.add_zero, Nat.zero_add, Nat.add_assoc, List.map_cons, List.map_nil, List.nil_append, List.append_nil, List.cons_append, Bool.not_true, Bool.not_false, jk, jn, jo, jp, jq, jr, Nat.add_left_cancel_iff, js, List.all_nil, jt, ju, Bool.and_self, Bool.and_true, Bool.true_and, true_and, and_true, jv, jw, jx, jy, jz, jA, jB, jC, jD, jE, jF, jG, jH, jI, jJ, jK, jL, jM, jN, jO, jP, jQ, jR, jS, jT, jU, jV, jW, jX, jY, jZ, Ja, List.set_cons_zero, List.set_cons_succ, Nat.reduceLT, and_self, if_true, ite_true, List.size_toArray, Nat.lt_add_one, Nat.zero_lt_succ, List.getElem?_toArray, Jb, Jc, Jd, Je, Jf, Jg, Jh, Ji, Jj, Jk, Jl, Int.reduceLE, Int.reduceLT, Int.reduceEq, Int.reduceNeg, Int.reduceAdd, decide_true, decide_false, Jm, Jn, Jo, Jp, Jq, Jr, Bool.or_false, Bool.false_or, Bool.false_and, Bool.and_false, Bool.or_self, Js, Jt, Ju, Jv, Jw, Jx, Jy, Jz, JA, JB, JC, JD, JE, JF, JG, JH, JI, JJ, JK, JL, JM, JN, JO, JP, JQ, JR, JS, JT, JU, JV, JW, JX, JY, JZ, Nat.reduceSub, if_false, ite_false, lenV_string Tryd.underlying9, ixS_at Tryd.underlying9, calleeV_func _ _ _ co_32, cvS_int Tryd.underlying3 Tryd.underlying41, h0, h4, h9, h10, hd, hexRes]
    exact Ja (by rfl) (by rfl)
end
end Go.Proofs.YtedfjfpnpncgkaaDoor
