/- Ints: a text's blanks are taken away: the closure in Parse, and the document's loops. -/
import Derived.Test.YtedfjfpnpncgkaaDoorIntsPP
namespace Go.Proofs.YtedfjfpnpncgkaaDoor
open Go.RowKit
set_option linter.unusedSimpArgs false
set_option linter.unusedVariables false

theorem slS_from {P : Program} {t : TypeId} (hu : P.underlying t = some .string) (l : List UInt8) (k : IntKind) (i : Nat) (h : i ≤ l.length) : slS P t (str l) (some (.int k (.ofNat i))) none = some (str (l.drop i)) := by
  rw [slS_at hu l (i := i) (m := l.length) rfl rfl h (Nat.le_refl _), List.take_of_length_le (by rw [List.length_drop]; omega)]
theorem slS_to {P : Program} {t : TypeId} (hu : P.underlying t = some .string) (l : List UInt8) (k : IntKind) (i : Nat) (h : i ≤ l.length) : slS P t (str l) none (some (.int k (.ofNat i))) = some (str (l.take i)) := by
  rw [slS_at hu l (i := 0) (m := i) rfl rfl (Nat.zero_le _) h]; simp
theorem slS_mid {P : Program} {t : TypeId} (hu : P.underlying t = some .string) (l : List UInt8) (k k' : IntKind) (i m : Nat) (h : i ≤ m) (h2 : m ≤ l.length) : slS P t (str l) (some (.int k (.ofNat i))) (some (.int k' (.ofNat m))) = some (str ((l.drop i).take (m - i))) := slS_at hu l rfl rfl h h2
theorem leave_own {o o' : Tr AObj} {nx nx' : Nat} {lg l : List Nat} {b : Nat} (hb : b < nx) (h : l = [] ∧ o' = o ∨ l = [b]) : ∃ nx'' lg', leave ⟨o, nx, lg⟩ (.tuple #[]) ⟨o', nx', l⟩ = (.tuple #[], ⟨o', nx'', lg'⟩) ∧ (nx'' = nx ∨ nx'' = nx') ∧ ∀ i ∈ lg', i = b ∨ i ∈ lg := by
  rcases h with ⟨rfl, rfl⟩ | rfl
  · exact ⟨nx, lg, by rw [Ja rfl (jX _)], .inl rfl, fun i h => .inr h⟩
  · have e : Nat.ble nx b = false := by
      cases h : Nat.ble nx b with
      | false => rfl
      | true => rw [Nat.ble_eq] at h; omega
    have e2 : Nat.blt b nx = true := by rw [Nat.blt_eq]; exact hb
    refine ⟨nx', noteId b lg, ?_, .inr rfl, fun i h => ?_⟩
    · unfold leave
      simp only [List.all_cons, e, Bool.false_and, cond, List.filter_cons, e2, if_true, List.filter_nil, List.foldl_cons, List.foldl_nil]
    · unfold noteId at h
      cases hc : lg.any (Nat.beq b) with
      | true => rw [hc] at h; exact .inr h
      | false =>
        rw [hc] at h
        rcases List.mem_cons.1 h with rfl | h
        · exact .inl rfl
        · exact .inr h
/-- the first byte that is not blank -/
theorem trimL_cons (c : UInt8) (r : List UInt8) : trimL (c :: r) = if spaceB c then trimL r else c :: r := by
  unfold trimL; rw [List.dropWhile_cons]
theorem trimR_snoc (l : List UInt8) (c : UInt8) : trimR (l ++ [c]) = if spaceB c then trimR l else l ++ [c] := by
  unfold trimR
  rw [List.reverse_append, List.reverse_cons, List.reverse_nil, List.nil_append, List.cons_append, List.nil_append, List.dropWhile_cons]
  split
  · rfl
  · rw [List.reverse_cons, List.reverse_reverse]
def SkipI (o : Tr AObj) (nx b : Nat) (t : TypeId) (f : List UInt8 → List UInt8) (z : List UInt8) (m : Nat) (env : Tr Value) (H : AHeap) : Prop :=
  ∃ l' o' nx' lg', (l'.length ≤ m ∧ l'.length < 4611686018427387904) ∧ H = ⟨o', nx', lg'⟩ ∧ nx ≤ nx' ∧ env.get 0 = some (.pointer (some ⟨b, 0, none⟩)) ∧ o'.get b = some (.row [str l'] t 0 true) ∧ (∀ i, i ≠ b → o'.get i = o.get i) ∧ f l' = z ∧ (lg' = [] ∧ o' = o ∨ lg' = [b])
theorem trimL_le (l : List UInt8) : (trimL l).length ≤ l.length := by
  unfold trimL; exact (List.dropWhile_sublist _).length_le
section
variable {O : Helps} {n : Nat} {o : Tr AObj} {nx : Nat} {lg : List Nat}
theorem note_own {b : Nat} {l : List Nat} (h : l = [] ∨ l = [b]) : noteId b l = [b] := by
  rcases h with rfl | rfl
  · rfl
  · unfold noteId; simp
set_option maxHeartbeats 4000000 in
theorem skip_ok (hO : Clear O) {b : Nat} {l : List UInt8} {t : TypeId} (hb : b < nx) (hrow : o.get b = some (.row [str l] t 0 true)) (hn : l.length < n) (hbig : l.length < 4611686018427387904) :
    Got (oCall Tryd.prog gs2 O (n + 3) 21 [.pointer (some ⟨b, 0, none⟩)] ⟨o, nx, lg⟩) fun r =>
      ∃ o' nx' lg', r = (.tuple #[], ⟨o', nx', lg'⟩) ∧ nx ≤ nx' ∧ o'.get b = some (.row [str (trimR (trimL l))] t 0 true) ∧ (∀ i, i ≠ b → o'.get i = o.get i) ∧ ∀ i ∈ lg', i = b ∨ i ∈ lg := by
  have hsp := fun o nx lg c => space_ok hO (n := n) (o := o) (nx := nx) (lg := lg) c
  simp only [bv] at hsp
  have hi0 : ∀ (c : UInt8) (r : List UInt8), (c :: r)[Int.toNat 0]? = some c := fun _ _ => rfl
  have hle := fun (c : UInt8) (r : List UInt8) => show decide ((c :: r) = []) = false from decide_eq_false (by simp)
  have hls := slS_from (P := Tryd.prog) (t := 9) Tryd.underlying9
  have hlt := slS_to (P := Tryd.prog) (t := 9) Tryd.underlying9
  have cs : ∀ l, (str l).cells = #[str l] := fun _ => rfl
  have os : ∀ l, oneV (str l) = true := fun _ => rfl
  rw [y_fn (rs := []) (hO _ (by decide)) Tryd.func21 rfl (by kernel_rfl) rfl rfl]
  refine y_cut (I := SkipI o nx b t trimR (trimR (trimL l)) l.length) ?_ ?_
  · rw [zm, y_loop_eq]
    refine y_loop (I := SkipI o nx b t trimL (trimL l)) ?_ l.length _ _ _ ?_ (by omega)
    · rintro m env H ⟨l', o', nx', lg', ⟨hlen, hbg⟩, rfl, hnx, g0, hrw, hfr, hz, hlg⟩
      cases l' with
      | nil =>
        refine y_exitcut ?_
        simp (maxDischargeDepth := 6) only [za, zb, zd, zg, zh, zj, zl, zm, zn, zp, zq, zr, zu, zw, zx, zy, zA, zB, zC, zD, zE, zF, zG, zH, zI, zJ, zK, zL, zM, zN, zO, zP, zQ, zR, zS, zT, zU, zV, zW, List.any_nil, zX, List.isEmpty_nil, Bool.true_or, Bool.or_true, zY, zZ, qb, qc, qd, qe, qf, qg, qh, qi, qj, qk, qo, qp, qr, qs, qt, qu, qx, qy, qz, qA, qB, qC, qD, qE, qF, Tr.get_nil, qG, qH, qI, qJ, qK, qL, qM, qN, qO, qP, qQ, qR, qS, qT, qU, qV, qW, qX, qY, qZ, ja, jb, jc, jd, rowAt, Option.getD_some, Option.getD_none, Option.bind_some, Option.bind_none, Option.map_some, Option.map_none, ↓jg, ↓ji, List.length_cons, List.length_nil, List.getElem?_cons_succ, List.getElem?_cons_zero, Nat.reduceAdd, Nat.reduceEqDiff, ne_eq, not_false_eq_true, Nat.add_zero, Nat.zero_add, Nat.add_assoc, List.map_cons, List.map_nil, List.nil_append, List.append_nil, List.cons_append, Bool.not_true, Bool.not_false, jk, jn, jo, jp, jq, jr, Nat.add_left_cancel_iff, js, List.all_nil, jt, ju, Bool.and_self, Bool.and_true, Bool.true_and, true_and, and_true, jv, jw, jx, jy, jz, jA, jB, jC, jD, jE, jF, jG, jH, jI, jJ, jK, jL, jM, jN, jO, jP, jQ, jR, jS, jT, jU, jV, jW, jX, jY, jZ, Ja, List.set_cons_zero, List.set_cons_succ, Nat.reduceLT, and_self, if_true, ite_true, List.size_toArray, Nat.lt_add_one, Nat.zero_lt_succ, List.getElem?_toArray, Jb, Jc, Jd, Je, Jf, Jg, Jh, Ji, Jj, Jk, Jl, Int.reduceLE, Int.reduceLT, Int.reduceEq, Int.reduceNeg, Int.reduceAdd, decide_true, decide_false, Jm, Jn, Jo, Jp, Jq, Jr, Bool.or_false, Bool.false_or, Bool.false_and, Bool.and_false, Bool.or_self, Js, Jt, Ju, Jv, Jw, Jx, Jy, Jz, JA, JB, JC, JD, JE, JF, JG, JH, JI, JJ, JK, JL, JM, JN, JO, JP, JQ, JR, JS, JT, JU, JV, JW, JX, JY, JZ, Nat.reduceSub, if_false, ite_false, aLoad_one ld_9, ixS_at Tryd.underlying9, calleeV_func _ _ _ co_22, aStore_at sz_9, lenV_string Tryd.underlying9, g0, hrw]
        refine ⟨_, _, _, rfl, ?_⟩
        simp only [Nat.beq_refl, cond]
        refine ⟨_, _, rfl, [], o', _, lg', ⟨Nat.zero_le _, by simp⟩, rfl, by omega, ?_, hrw, hfr, by rw [← hz]; rfl, hlg⟩
        simp only [qC, qD, qE, qF, Tr.get_nil, ne_eq, not_false_eq_true, Nat.reduceEqDiff, g0]
      | cons c r =>
        have hl1 : slS Tryd.prog 9 (str (c :: r)) (some (.int .i64 1)) none = some (str r) := hls (c :: r) .i64 1 (by simp)
        by_cases hs : spaceB c = true
        · simp (maxDischargeDepth := 6) only [za, zb, zd, zg, zh, zj, zl, zm, zn, zp, zq, zr, zu, zw, zx, zy, zA, zB, zC, zD, zE, zF, zG, zH, zI, zJ, zK, zL, zM, zN, zO, zP, zQ, zR, zS, zT, zU, zV, zW, List.any_nil, zX, List.isEmpty_nil, Bool.true_or, Bool.or_true, zY, zZ, qb, qc, qd, qe, qf, qg, qh, qi, qj, qk, qo, qp, qr, qs, qt, qu, qx, qy, qz, qA, qB, qC, qD, qE, qF, Tr.get_nil, qG, qH, qI, qJ, qK, qL, qM, qN, qO, qP, qQ, qR, qS, qT, qU, qV, qW, qX, qY, qZ, ja, jb, jc, jd, rowAt, Option.getD_some, Option.getD_none, Option.bind_some, Option.bind_none, Option.map_some, Option.map_none, ↓jg, ↓ji, List.length_cons, List.length_nil, List.getElem?_cons_succ, List.getElem?_cons_zero, Nat.reduceAdd, Nat.reduceEqDiff, ne_eq, not_false_eq_true, Nat.add_zero, Nat.zero_add, Nat.add_assoc, List.map_cons, List.map_nil, List.nil_append, List.append_nil, List.cons_append, Bool.not_true, Bool.not_false, jk, jn, jo, jp, jq, jr, Nat.add_left_cancel_iff, js, List.all_nil, jt, ju, Bool.and_self, Bool.and_true, Bool.true_and, true_and, and_true, jv, jw, jx, jy, jz, jA, jB, jC, jD, jE, jF, jG, jH, jI, jJ, jK, jL, jM, jN, jO, jP, jQ, jR, jS, jT, jU, jV, jW, jX, jY, jZ, Ja, List.set_cons_zero, List.set_cons_succ, Nat.reduceLT, and_self, if_true, ite_true, List.size_toArray, Nat.lt_add_one, Nat.zero_lt_succ, List.getElem?_toArray, Jb, Jc, Jd, Je, Jf, Jg, Jh, Ji, Jj, Jk, Jl, Int.reduceLE, Int.reduceLT, Int.reduceEq, Int.reduceNeg, Int.reduceAdd, decide_true, decide_false, Jm, Jn, Jo, Jp, Jq, Jr, Bool.or_false, Bool.false_or, Bool.false_and, Bool.and_false, Bool.or_self, Js, Jt, Ju, Jv, Jw, Jx, Jy, Jz, JA, JB, JC, JD, JE, JF, JG, JH, JI, JJ, JK, JL, JM, JN, JO, JP, JQ, JR, JS, JT, JU, JV, JW, JX, JY, JZ, Nat.reduceSub, if_false, ite_false, aLoad_one ld_9, ixS_at Tryd.underlying9, calleeV_func _ _ _ co_22, aStore_at sz_9, lenV_string Tryd.underlying9, g0, hrw, hsp, hs, hle, hi0, hl1, cs, os]
          refine ⟨m - 1, by simp at hlen; omega, r, _, _, _, ⟨by simp at hlen; omega, by simp at hbg; omega⟩, rfl, by omega, ?_, qE .., fun i hi => by rw [qF _ _ _ _ hi]; exact hfr i hi, by rw [← hz, trimL_cons, if_pos hs], .inr (note_own (hlg.imp And.left id))⟩
          simp only [qC, qD, qE, qF, Tr.get_nil, ne_eq, not_false_eq_true, Nat.reduceEqDiff, g0]
        · have hs := Bool.eq_false_iff.2 hs
          refine y_exitcut ?_
          simp (maxDischargeDepth := 6) only [za, zb, zd, zg, zh, zj, zl, zm, zn, zp, zq, zr, zu, zw, zx, zy, zA, zB, zC, zD, zE, zF, zG, zH, zI, zJ, zK, zL, zM, zN, zO, zP, zQ, zR, zS, zT, zU, zV, zW, List.any_nil, zX, List.isEmpty_nil, Bool.true_or, Bool.or_true, zY, zZ, qb, qc, qd, qe, qf, qg, qh, qi, qj, qk, qo, qp, qr, qs, qt, qu, qx, qy, qz, qA, qB, qC, qD, qE, qF, Tr.get_nil, qG, qH, qI, qJ, qK, qL, qM, qN, qO, qP, qQ, qR, qS, qT, qU, qV, qW, qX, qY, qZ, ja, jb, jc, jd, rowAt, Option.getD_some, Option.getD_none, Option.bind_some, Option.bind_none, Option.map_some, Option.map_none, ↓jg, ↓ji, List.length_cons, List.length_nil, List.getElem?_cons_succ, List.getElem?_cons_zero, Nat.reduceAdd, Nat.reduceEqDiff, ne_eq, not_false_eq_true, Nat.add_zero, Nat.zero_add, Nat.add_assoc, List.map_cons, List.map_nil, List.nil_append, List.append_nil, List.cons_append, Bool.not_true, Bool.not_false, jk, jn, jo, jp, jq, jr, Nat.add_left_cancel_iff, js, List.all_nil, jt, ju, Bool.and_self, Bool.and_true, Bool.true_and, true_and, and_true, jv, jw, jx, jy, jz, jA, jB, jC, jD, jE, jF, jG, jH, jI, jJ, jK, jL, jM, jN, jO, jP, jQ, jR, jS, jT, jU, jV, jW, jX, jY, jZ, Ja, List.set_cons_zero, List.set_cons_succ, Nat.reduceLT, and_self, if_true, ite_true, List.size_toArray, Nat.lt_add_one, Nat.zero_lt_succ, List.getElem?_toArray, Jb, Jc, Jd, Je, Jf, Jg, Jh, Ji, Jj, Jk, Jl, Int.reduceLE, Int.reduceLT, Int.reduceEq, Int.reduceNeg, Int.reduceAdd, decide_true, decide_false, Jm, Jn, Jo, Jp, Jq, Jr, Bool.or_false, Bool.false_or, Bool.false_and, Bool.and_false, Bool.or_self, Js, Jt, Ju, Jv, Jw, Jx, Jy, Jz, JA, JB, JC, JD, JE, JF, JG, JH, JI, JJ, JK, JL, JM, JN, JO, JP, JQ, JR, JS, JT, JU, JV, JW, JX, JY, JZ, Nat.reduceSub, if_false, ite_false, aLoad_one ld_9, ixS_at Tryd.underlying9, calleeV_func _ _ _ co_22, aStore_at sz_9, lenV_string Tryd.underlying9, g0, hrw, hsp, hs, hle, hi0]
          refine ⟨_, _, _, rfl, ?_⟩
          simp only [Nat.beq_refl, cond]
          refine ⟨_, _, rfl, c :: r, o', _, lg', ⟨?_, hbg⟩, rfl, by omega, ?_, hrw, hfr, ?_, hlg⟩
          · have := trimL_le l
            rw [← hz, trimL_cons, hs] at this
            exact this
          · simp only [qC, qD, qE, qF, Tr.get_nil, ne_eq, not_false_eq_true, Nat.reduceEqDiff, g0]
          · rw [← hz, trimL_cons, hs]; rfl
    · exact ⟨l, o, _, _, ⟨Nat.le_refl _, hbig⟩, rfl, by omega, by simp only [qC, qD, qE, qF, Tr.get_nil, ne_eq, not_false_eq_true, Nat.reduceEqDiff, qG], hrow, fun _ _ => rfl, rfl, .inl ⟨rfl, rfl⟩⟩
  rintro e1 H1 ⟨l1, o1, nx1, lg1, hl1, rfl, hn1, g0, hrow1, hfr1, hz1, hlg1⟩
  rw [zm, y_loop_eq]
  refine y_loop (I := SkipI o nx b t trimR (trimR (trimL l))) ?_ l.length _ _ _ ⟨l1, o1, nx1, lg1, hl1, rfl, hn1, g0, hrow1, hfr1, hz1, hlg1⟩ (by omega)
  rintro m env H ⟨l', o', nx', lg', ⟨hlen, hbg⟩, rfl, hnx, g0, hrw, hfr, hz, hlg⟩
  have hend : trimR l' = l' → ∀ nx'', nx ≤ nx'' → ∃ o2 nx2 lg2, leave ⟨o, nx, lg⟩ (.tuple #[]) ⟨o', nx'', lg'⟩ = (.tuple #[], ⟨o2, nx2, lg2⟩) ∧ nx ≤ nx2 ∧ o2.get b = some (.row [str (trimR (trimL l))] t 0 true) ∧ (∀ i, i ≠ b → o2.get i = o.get i) ∧ ∀ i ∈ lg2, i = b ∨ i ∈ lg := by
    intro ht nx'' hnx''
    obtain ⟨nx3, lg3, e, h3, h4⟩ := leave_own (o := o) (o' := o') (nx := nx) (nx' := nx'') (lg := lg) (l := lg') hb hlg
    rw [e]
    refine ⟨_, _, _, rfl, by rcases h3 with rfl | rfl <;> omega, ?_, hfr, h4⟩
    rw [hrw, ← hz, ht]
  rcases List.eq_nil_or_concat l' with rfl | ⟨r, c, hL⟩
  · refine y_exitcut ?_
    rw [za]
    refine s_region rfl ?_
    repeat (first | (refine s_else ?_) | ((first | apply s_op | apply s_guard | apply s_then); (simp (maxDischargeDepth := 6) only [za, zb, zd, zg, zh, zj, zl, zm, zn, zp, zq, zr, zu, zw, zx, zy, zA, zB, zC, zD, zE, zF, zG, zH, zI, zJ, zK, zL, zM, zN, zO, zP, zQ, zR, zS, zT, zU, zV, zW, List.any_nil, zX, List.isEmpty_nil, Bool.true_or, Bool.or_true, zY, zZ, qb, qc, qd, qe, qf, qg, qh, qi, qj, qk, qo, qp, qr, qs, qt, qu, qx, qy, qz, qA, qB, qC, qD, qE, qF, Tr.get_nil, qG, qH, qI, qJ, qK, qL, qM, qN, qO, qP, qQ, qR, qS, qT, qU, qV, qW, qX, qY, qZ, ja, jb, jc, jd, rowAt, Option.getD_some, Option.getD_none, Option.bind_some, Option.bind_none, Option.map_some, Option.map_none, ↓jg, ↓ji, List.length_cons, List.length_nil, List.getElem?_cons_succ, List.getElem?_cons_zero, Nat.reduceAdd, Nat.reduceEqDiff, ne_eq, not_false_eq_true, Nat.add_zero, Nat.zero_add, Nat.add_assoc, List.map_cons, List.map_nil, List.nil_append, List.append_nil, List.cons_append, Bool.not_true, Bool.not_false, jk, jn, jo, jp, jq, jr, Nat.add_left_cancel_iff, js, List.all_nil, jt, ju, Bool.and_self, Bool.and_true, Bool.true_and, true_and, and_true, jv, jw, jx, jy, jz, jA, jB, jC, jD, jE, jF, jG, jH, jI, jJ, jK, jL, jM, jN, jO, jP, jQ, jR, jS, jT, jU, jV, jW, jX, jY, jZ, Ja, List.set_cons_zero, List.set_cons_succ, Nat.reduceLT, and_self, if_true, ite_true, List.size_toArray, Nat.lt_add_one, Nat.zero_lt_succ, List.getElem?_toArray, Jb, Jc, Jd, Je, Jf, Jg, Jh, Ji, Jj, Jk, Jl, Int.reduceLE, Int.reduceLT, Int.reduceEq, Int.reduceNeg, Int.reduceAdd, decide_true, decide_false, Jm, Jn, Jo, Jp, Jq, Jr, Bool.or_false, Bool.false_or, Bool.false_and, Bool.and_false, Bool.or_self, Js, Jt, Ju, Jv, Jw, Jx, Jy, Jz, JA, JB, JC, JD, JE, JF, JG, JH, JI, JJ, JK, JL, JM, JN, JO, JP, JQ, JR, JS, JT, JU, JV, JW, JX, JY, JZ, Nat.reduceSub, if_false, ite_false, aLoad_one ld_9, ixS_at Tryd.underlying9, calleeV_func _ _ _ co_22, aStore_at sz_9, lenV_string Tryd.underlying9, g0, hrw]; exact rfl)))
    refine s_nil ?_
    simp (maxDischargeDepth := 6) only [za, zb, zd, zg, zh, zj, zl, zm, zn, zp, zq, zr, zu, zw, zx, zy, zA, zB, zC, zD, zE, zF, zG, zH, zI, zJ, zK, zL, zM, zN, zO, zP, zQ, zR, zS, zT, zU, zV, zW, List.any_nil, zX, List.isEmpty_nil, Bool.true_or, Bool.or_true, zY, zZ, qb, qc, qd, qe, qf, qg, qh, qi, qj, qk, qo, qp, qr, qs, qt, qu, qx, qy, qz, qA, qB, qC, qD, qE, qF, Tr.get_nil, qG, qH, qI, qJ, qK, qL, qM, qN, qO, qP, qQ, qR, qS, qT, qU, qV, qW, qX, qY, qZ, ja, jb, jc, jd, rowAt, Option.getD_some, Option.getD_none, Option.bind_some, Option.bind_none, Option.map_some, Option.map_none, ↓jg, ↓ji, List.length_cons, List.length_nil, List.getElem?_cons_succ, List.getElem?_cons_zero, Nat.reduceAdd, Nat.reduceEqDiff, ne_eq, not_false_eq_true, Nat.add_zero, Nat.zero_add, Nat.add_assoc, List.map_cons, List.map_nil, List.nil_append, List.append_nil, List.cons_append, Bool.not_true, Bool.not_false, jk, jn, jo, jp, jq, jr, Nat.add_left_cancel_iff, js, List.all_nil, jt, ju, Bool.and_self, Bool.and_true, Bool.true_and, true_and, and_true, jv, jw, jx, jy, jz, jA, jB, jC, jD, jE, jF, jG, jH, jI, jJ, jK, jL, jM, jN, jO, jP, jQ, jR, jS, jT, jU, jV, jW, jX, jY, jZ, Ja, List.set_cons_zero, List.set_cons_succ, Nat.reduceLT, and_self, if_true, ite_true, List.size_toArray, Nat.lt_add_one, Nat.zero_lt_succ, List.getElem?_toArray, Jb, Jc, Jd, Je, Jf, Jg, Jh, Ji, Jj, Jk, Jl, Int.reduceLE, Int.reduceLT, Int.reduceEq, Int.reduceNeg, Int.reduceAdd, decide_true, decide_false, Jm, Jn, Jo, Jp, Jq, Jr, Bool.or_false, Bool.false_or, Bool.false_and, Bool.and_false, Bool.or_self, Js, Jt, Ju, Jv, Jw, Jx, Jy, Jz, JA, JB, JC, JD, JE, JF, JG, JH, JI, JJ, JK, JL, JM, JN, JO, JP, JQ, JR, JS, JT, JU, JV, JW, JX, JY, JZ, Nat.reduceSub, if_false, ite_false, aLoad_one ld_9, ixS_at Tryd.underlying9, calleeV_func _ _ _ co_22, aStore_at sz_9, lenV_string Tryd.underlying9, g0, hrw]
    refine ⟨_, _, _, rfl, ?_⟩
    simp only [Nat.beq_refl, cond, qC, qD, qE, qF, Tr.get_nil, ne_eq, not_false_eq_true, Nat.reduceEqDiff, zx, qU, qX, jd, Option.map_some, Option.bind_some]
    exact hend rfl _ (by omega)
  · rw [List.concat_eq_append] at hL
    have hix : l'[r.length]? = some c := by rw [hL]; simp
    have h0 : decide (l' = []) = false := decide_eq_false (by rw [hL]; simp)
    have hl1 : l'.length = r.length + 1 := by rw [hL]; simp
    have hw : IntKind.i64.wrap (Int.ofNat (r.length + 1) - 1) = Int.ofNat r.length := by rw [IntWalk.i64_in _ (by simp only [Int.ofNat_eq_natCast]; omega)]; simp only [Int.ofNat_eq_natCast]; omega
    have hsl : slS Tryd.prog 9 (str l') none (some (.int .i64 (.ofNat r.length))) = some (str r) := by rw [hlt l' .i64 r.length (by omega), hL]; simp
    by_cases hs : spaceB c = true
    · rw [za, za]
      refine s_region rfl ?_
      repeat (first | (refine s_else ?_) | ((first | apply s_op | apply s_guard | apply s_then); (simp (maxDischargeDepth := 6) only [za, zb, zd, zg, zh, zj, zl, zm, zn, zp, zq, zr, zu, zw, zx, zy, zA, zB, zC, zD, zE, zF, zG, zH, zI, zJ, zK, zL, zM, zN, zO, zP, zQ, zR, zS, zT, zU, zV, zW, List.any_nil, zX, List.isEmpty_nil, Bool.true_or, Bool.or_true, zY, zZ, qb, qc, qd, qe, qf, qg, qh, qi, qj, qk, qo, qp, qr, qs, qt, qu, qx, qy, qz, qA, qB, qC, qD, qE, qF, Tr.get_nil, qG, qH, qI, qJ, qK, qL, qM, qN, qO, qP, qQ, qR, qS, qT, qU, qV, qW, qX, qY, qZ, ja, jb, jc, jd, rowAt, Option.getD_some, Option.getD_none, Option.bind_some, Option.bind_none, Option.map_some, Option.map_none, ↓jg, ↓ji, List.length_cons, List.length_nil, List.getElem?_cons_succ, List.getElem?_cons_zero, Nat.reduceAdd, Nat.reduceEqDiff, ne_eq, not_false_eq_true, Nat.add_zero, Nat.zero_add, Nat.add_assoc, List.map_cons, List.map_nil, List.nil_append, List.append_nil, List.cons_append, Bool.not_true, Bool.not_false, jk, jn, jo, jp, jq, jr, Nat.add_left_cancel_iff, js, List.all_nil, jt, ju, Bool.and_self, Bool.and_true, Bool.true_and, true_and, and_true, jv, jw, jx, jy, jz, jA, jB, jC, jD, jE, jF, jG, jH, jI, jJ, jK, jL, jM, jN, jO, jP, jQ, jR, jS, jT, jU, jV, jW, jX, jY, jZ, Ja, List.set_cons_zero, List.set_cons_succ, Nat.reduceLT, and_self, if_true, ite_true, List.size_toArray, Nat.lt_add_one, Nat.zero_lt_succ, List.getElem?_toArray, Jb, Jc, Jd, Je, Jf, Jg, Jh, Ji, Jj, Jk, Jl, Int.reduceLE, Int.reduceLT, Int.reduceEq, Int.reduceNeg, Int.reduceAdd, decide_true, decide_false, Jm, Jn, Jo, Jp, Jq, Jr, Bool.or_false, Bool.false_or, Bool.false_and, Bool.and_false, Bool.or_self, Js, Jt, Ju, Jv, Jw, Jx, Jy, Jz, JA, JB, JC, JD, JE, JF, JG, JH, JI, JJ, JK, JL, JM, JN, JO, JP, JQ, JR, JS, JT, JU, JV, JW, JX, JY, JZ, Nat.reduceSub, if_false, ite_false, aLoad_one ld_9, ixS_at Tryd.underlying9, calleeV_func _ _ _ co_22, aStore_at sz_9, lenV_string Tryd.underlying9, g0, hrw, hsp, hs, hix, h0, hl1, hw, JS]; exact rfl)))
      refine s_nil ?_
      simp (maxDischargeDepth := 6) only [za, zb, zd, zg, zh, zj, zl, zm, zn, zp, zq, zr, zu, zw, zx, zy, zA, zB, zC, zD, zE, zF, zG, zH, zI, zJ, zK, zL, zM, zN, zO, zP, zQ, zR, zS, zT, zU, zV, zW, List.any_nil, zX, List.isEmpty_nil, Bool.true_or, Bool.or_true, zY, zZ, qb, qc, qd, qe, qf, qg, qh, qi, qj, qk, qo, qp, qr, qs, qt, qu, qx, qy, qz, qA, qB, qC, qD, qE, qF, Tr.get_nil, qG, qH, qI, qJ, qK, qL, qM, qN, qO, qP, qQ, qR, qS, qT, qU, qV, qW, qX, qY, qZ, ja, jb, jc, jd, rowAt, Option.getD_some, Option.getD_none, Option.bind_some, Option.bind_none, Option.map_some, Option.map_none, ↓jg, ↓ji, List.length_cons, List.length_nil, List.getElem?_cons_succ, List.getElem?_cons_zero, Nat.reduceAdd, Nat.reduceEqDiff, ne_eq, not_false_eq_true, Nat.add_zero, Nat.zero_add, Nat.add_assoc, List.map_cons, List.map_nil, List.nil_append, List.append_nil, List.cons_append, Bool.not_true, Bool.not_false, jk, jn, jo, jp, jq, jr, Nat.add_left_cancel_iff, js, List.all_nil, jt, ju, Bool.and_self, Bool.and_true, Bool.true_and, true_and, and_true, jv, jw, jx, jy, jz, jA, jB, jC, jD, jE, jF, jG, jH, jI, jJ, jK, jL, jM, jN, jO, jP, jQ, jR, jS, jT, jU, jV, jW, jX, jY, jZ, Ja, List.set_cons_zero, List.set_cons_succ, Nat.reduceLT, and_self, if_true, ite_true, List.size_toArray, Nat.lt_add_one, Nat.zero_lt_succ, List.getElem?_toArray, Jb, Jc, Jd, Je, Jf, Jg, Jh, Ji, Jj, Jk, Jl, Int.reduceLE, Int.reduceLT, Int.reduceEq, Int.reduceNeg, Int.reduceAdd, decide_true, decide_false, Jm, Jn, Jo, Jp, Jq, Jr, Bool.or_false, Bool.false_or, Bool.false_and, Bool.and_false, Bool.or_self, Js, Jt, Ju, Jv, Jw, Jx, Jy, Jz, JA, JB, JC, JD, JE, JF, JG, JH, JI, JJ, JK, JL, JM, JN, JO, JP, JQ, JR, JS, JT, JU, JV, JW, JX, JY, JZ, Nat.reduceSub, if_false, ite_false, aLoad_one ld_9, ixS_at Tryd.underlying9, calleeV_func _ _ _ co_22, aStore_at sz_9, lenV_string Tryd.underlying9, g0, hrw, hl1, hw, hsl, cs, os, JS]
      refine ⟨m - 1, by omega, r, _, _, _, ⟨by omega, by omega⟩, rfl, by omega, ?_, qE .., fun i hi => by rw [qF _ _ _ _ hi]; exact hfr i hi, by rw [← hz, hL, trimR_snoc, if_pos hs], .inr (note_own (hlg.imp And.left id))⟩
      simp only [qC, qD, qE, qF, Tr.get_nil, ne_eq, not_false_eq_true, Nat.reduceEqDiff, g0]
    · have hs := Bool.eq_false_iff.2 hs
      refine y_exitcut ?_
      rw [za]
      refine s_region rfl ?_
      repeat (first | (refine s_else ?_) | ((first | apply s_op | apply s_guard | apply s_then); (simp (maxDischargeDepth := 6) only [za, zb, zd, zg, zh, zj, zl, zm, zn, zp, zq, zr, zu, zw, zx, zy, zA, zB, zC, zD, zE, zF, zG, zH, zI, zJ, zK, zL, zM, zN, zO, zP, zQ, zR, zS, zT, zU, zV, zW, List.any_nil, zX, List.isEmpty_nil, Bool.true_or, Bool.or_true, zY, zZ, qb, qc, qd, qe, qf, qg, qh, qi, qj, qk, qo, qp, qr, qs, qt, qu, qx, qy, qz, qA, qB, qC, qD, qE, qF, Tr.get_nil, qG, qH, qI, qJ, qK, qL, qM, qN, qO, qP, qQ, qR, qS, qT, qU, qV, qW, qX, qY, qZ, ja, jb, jc, jd, rowAt, Option.getD_some, Option.getD_none, Option.bind_some, Option.bind_none, Option.map_some, Option.map_none, ↓jg, ↓ji, List.length_cons, List.length_nil, List.getElem?_cons_succ, List.getElem?_cons_zero, Nat.reduceAdd, Nat.reduceEqDiff, ne_eq, not_false_eq_true, Nat.add_zero, Nat.zero_add, Nat.add_assoc, List.map_cons, List.map_nil, List.nil_append, List.append_nil, List.cons_append, Bool.not_true, Bool.not_false, jk, jn, jo, jp, jq, jr, Nat.add_left_cancel_iff, js, List.all_nil, jt, ju, Bool.and_self, Bool.and_true, Bool.true_and, true_and, and_true, jv, jw, jx, jy, jz, jA, jB, jC, jD, jE, jF, jG, jH, jI, jJ, jK, jL, jM, jN, jO, jP, jQ, jR, jS, jT, jU, jV, jW, jX, jY, jZ, Ja, List.set_cons_zero, List.set_cons_succ, Nat.reduceLT, and_self, if_true, ite_true, List.size_toArray, Nat.lt_add_one, Nat.zero_lt_succ, List.getElem?_toArray, Jb, Jc, Jd, Je, Jf, Jg, Jh, Ji, Jj, Jk, Jl, Int.reduceLE, Int.reduceLT, Int.reduceEq, Int.reduceNeg, Int.reduceAdd, decide_true, decide_false, Jm, Jn, Jo, Jp, Jq, Jr, Bool.or_false, Bool.false_or, Bool.false_and, Bool.and_false, Bool.or_self, Js, Jt, Ju, Jv, Jw, Jx, Jy, Jz, JA, JB, JC, JD, JE, JF, JG, JH, JI, JJ, JK, JL, JM, JN, JO, JP, JQ, JR, JS, JT, JU, JV, JW, JX, JY, JZ, Nat.reduceSub, if_false, ite_false, aLoad_one ld_9, ixS_at Tryd.underlying9, calleeV_func _ _ _ co_22, aStore_at sz_9, lenV_string Tryd.underlying9, g0, hrw, hsp, hs, hix, h0, hl1, hw, JS]; exact rfl)))
      refine s_nil ?_
      simp (maxDischargeDepth := 6) only [za, zb, zd, zg, zh, zj, zl, zm, zn, zp, zq, zr, zu, zw, zx, zy, zA, zB, zC, zD, zE, zF, zG, zH, zI, zJ, zK, zL, zM, zN, zO, zP, zQ, zR, zS, zT, zU, zV, zW, List.any_nil, zX, List.isEmpty_nil, Bool.true_or, Bool.or_true, zY, zZ, qb, qc, qd, qe, qf, qg, qh, qi, qj, qk, qo, qp, qr, qs, qt, qu, qx, qy, qz, qA, qB, qC, qD, qE, qF, Tr.get_nil, qG, qH, qI, qJ, qK, qL, qM, qN, qO, qP, qQ, qR, qS, qT, qU, qV, qW, qX, qY, qZ, ja, jb, jc, jd, rowAt, Option.getD_some, Option.getD_none, Option.bind_some, Option.bind_none, Option.map_some, Option.map_none, ↓jg, ↓ji, List.length_cons, List.length_nil, List.getElem?_cons_succ, List.getElem?_cons_zero, Nat.reduceAdd, Nat.reduceEqDiff, ne_eq, not_false_eq_true, Nat.add_zero, Nat.zero_add, Nat.add_assoc, List.map_cons, List.map_nil, List.nil_append, List.append_nil, List.cons_append, Bool.not_true, Bool.not_false, jk, jn, jo, jp, jq, jr, Nat.add_left_cancel_iff, js, List.all_nil, jt, ju, Bool.and_self, Bool.and_true, Bool.true_and, true_and, and_true, jv, jw, jx, jy, jz, jA, jB, jC, jD, jE, jF, jG, jH, jI, jJ, jK, jL, jM, jN, jO, jP, jQ, jR, jS, jT, jU, jV, jW, jX, jY, jZ, Ja, List.set_cons_zero, List.set_cons_succ, Nat.reduceLT, and_self, if_true, ite_true, List.size_toArray, Nat.lt_add_one, Nat.zero_lt_succ, List.getElem?_toArray, Jb, Jc, Jd, Je, Jf, Jg, Jh, Ji, Jj, Jk, Jl, Int.reduceLE, Int.reduceLT, Int.reduceEq, Int.reduceNeg, Int.reduceAdd, decide_true, decide_false, Jm, Jn, Jo, Jp, Jq, Jr, Bool.or_false, Bool.false_or, Bool.false_and, Bool.and_false, Bool.or_self, Js, Jt, Ju, Jv, Jw, Jx, Jy, Jz, JA, JB, JC, JD, JE, JF, JG, JH, JI, JJ, JK, JL, JM, JN, JO, JP, JQ, JR, JS, JT, JU, JV, JW, JX, JY, JZ, Nat.reduceSub, if_false, ite_false, aLoad_one ld_9, ixS_at Tryd.underlying9, calleeV_func _ _ _ co_22, aStore_at sz_9, lenV_string Tryd.underlying9, g0, hrw]
      refine ⟨_, _, _, rfl, ?_⟩
      simp only [Nat.beq_refl, cond, qC, qD, qE, qF, Tr.get_nil, ne_eq, not_false_eq_true, Nat.reduceEqDiff, zx, qU, qX, jd, Option.map_some, Option.bind_some]
      exact hend (by rw [hL, trimR_snoc, hs]; rfl) _ (by omega)
end
end Go.Proofs.YtedfjfpnpncgkaaDoor
