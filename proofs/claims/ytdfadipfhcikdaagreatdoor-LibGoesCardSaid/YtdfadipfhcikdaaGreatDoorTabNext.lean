/- Table: Next. -/
import Derived.Test.YtdfadipfhcikdaaGreatDoorTabDel
namespace Go.Proofs.YtdfadipfhcikdaaGreatDoor
open Go.RowKit
set_option linter.unusedVariables false
set_option linter.unusedSimpArgs false

theorem live_ok {O : Helps} (hO : Clear O) {n : Nat} {o : Tr AObj} {nx : Nat} {lg : List Nat} (p : VV × VV) :
    oCall Tryz.prog [] O (n + 2) 126 [pv p] ⟨o, nx, lg⟩ = some (.bool (!isDead p), ⟨o, nx, lg⟩) := by
  have : Got (oCall Tryz.prog [] O (n + 2) 126 [pv p] ⟨o, nx, lg⟩) fun r => r = (.bool (!isDead p), ⟨o, nx, lg⟩) := by
    have sz1 : aggSize Tryz.prog 102 = some (some 4) := by kernel_rfl
    have cd : codeOf Tryz.prog 63 = true := by kernel_rfl
    have hdead := fun o nx lg => dead_ok hO (n := n) (o := o) (nx := nx) (lg := lg) p
    simp only [pv] at hdead
    rw [y_fn (rs := [.tmp 2]) (hO _ (by decide)) Tryz.func126 rfl (by kernel_rfl) rfl rfl]
    simp (maxDischargeDepth := 6) only [za, zb, zd, zg, zh, zj, zl, zm, zn, zp, zq, zr, zu, zw, zx, zy, zA, zB, zC, zD, zE, zF, zG, zH, zI, zJ, zK, zL, zM, zN, zO, zP, zQ, zR, zS, zT, zU, zV, zW, List.any_nil, zX, List.isEmpty_nil, Bool.true_or, Bool.or_true, zY, zZ, qb, qc, qd, qe, qf, qg, qh, qi, qj, qk, qo, qp, qr, qs, qt, qu, qx, qy, qz, qA, qB, qC, qD, qE, qF, Tr.get_nil, qG, qH, qI, qJ, qK, qL, qM, qN, qO, qP, qQ, qR, qS, qT, qU, qV, qW, qX, qY, qZ, ja, jb, jc, jd, rowAt, Option.getD_some, Option.getD_none, Option.bind_some, Option.bind_none, Option.map_some, Option.map_none, ↓jg, ↓ji, List.length_cons, List.length_nil, List.getElem?_cons_succ, List.getElem?_cons_zero, Nat.reduceAdd, Nat.reduceEqDiff, ne_eq, not_false_eq_true, Nat.add_zero, Nat.zero_add, Nat.add_assoc, List.map_cons, List.map_nil, List.nil_append, List.append_nil, List.cons_append, Bool.not_true, Bool.not_false, jk, jn, jo, jp, jq, jr, Nat.add_left_cancel_iff, js, List.all_nil, jt, ju, Bool.and_self, Bool.and_true, Bool.true_and, true_and, and_true, jv, jw, jx, jy, jz, jA, jB, jC, jD, jE, jF, jG, jH, jI, jJ, jK, jL, jM, jN, jO, jP, jQ, jR, jS, jT, jU, jV, jW, jX, jY, jZ, Ja, List.set_cons_zero, List.set_cons_succ, Nat.reduceLT, and_self, if_true, ite_true, List.size_toArray, Nat.lt_add_one, Nat.zero_lt_succ, List.getElem?_toArray, Jb, Jc, Jd, Je, Jf, Jg, Jh, Ji, Jj, Jk, Jl, Int.reduceLE, Int.reduceLT, Int.reduceEq, Int.reduceNeg, Int.reduceAdd, decide_true, decide_false, Jm, Jn, Jo, Jp, Jq, Jr, Bool.or_false, Bool.false_or, Bool.false_and, Bool.and_false, Bool.or_self, Js, Jt, Ju, Jv, Jw, Jx, Jy, Jz, JA, JB, JC, JD, JE, JF, JG, JH, JI, JJ, JK, JL, JM, JN, JO, JP, JQ, JR, JS, JT, JU, JV, JW, JX, JY, JZ, Nat.reduceSub, if_false, ite_false, pv, aLoad_agg sz1, calleeV_func _ _ _ cd, hdead, isDead]
    exact Ja rfl rfl
  obtain ⟨a, h1, rfl⟩ := this
  exact h1
/-- what Next tells: the key, its value, the number of an error -/
def nextFrom (l : List (VV × VV)) (s : Nat) : VV × VV × Int := match firstIx (fun p => !isDead p) (l.drop s) with
  | some r => match l[s + r]? with
    | some p => (p.1, p.2, 0)
    | none => ((0, 0), (0, 0), 0)
  | none => ((0, 0), (0, 0), 0)
def nextL (l : List (VV × VV)) (k : VV) : VV × VV × Int := if k.1 = 0 then nextFrom l 0 else match findK k (kvFrom 0 l) 0 with
  | some (r, _) => nextFrom l (r + 1)
  | none => ((0, 0), (0, 0), 2)
def nextV (x : VV × VV × Int) : Value := .tuple #[vv x.1, vv x.2.1, .int .i64 x.2.2]
set_option maxHeartbeats 4000000 in
theorem next_ok {O : Helps} (hO : Clear O) {n : Nat} {o : Tr AObj} {nx : Nat} {lg : List Nat} {i : Nat} {l : List (VV × VV)} (h : TabAt o nx i l) (hn : l.length ≤ n) (hbig : l.length < 4611686018427387904) (k : VV) :
    oCall Tryz.prog [] O (n + 4) 107 [.pointer (some ⟨i, 0, none⟩), vv k] ⟨o, nx, lg⟩ = some (nextV (nextL l k), ⟨o, nx, lg⟩) := by
  obtain ⟨hi, s, m, z, hr, hm, hmi, ⟨es, c, he, hmap⟩, hs⟩ := h
  have : Got (oCall Tryz.prog [] O (n + 4) 107 [.pointer (some ⟨i, 0, none⟩), vv k] ⟨o, nx, lg⟩) fun r => r = (nextV (nextL l k), ⟨o, nx, lg⟩) := by
    have fo : fieldOff Tryz.prog 98 1 = some 1 := by kernel_rfl
    have fo0 : fieldOff Tryz.prog 98 0 = some 0 := by kernel_rfl
    have fo1 : fieldOff Tryz.prog 102 1 = some 2 := by kernel_rfl
    have fo2 : fieldOff Tryz.prog 102 0 = some 0 := by kernel_rfl
    have fo3 : fieldOff Tryz.prog 29 0 = some 0 := by kernel_rfl
    have szk : aggSize Tryz.prog 27 = some none := by kernel_rfl
    have sz : aggSize Tryz.prog 95 = some none := by kernel_rfl
    have sz0 : aggSize Tryz.prog 96 = some none := by kernel_rfl
    have sz1 : aggSize Tryz.prog 29 = some (some 2) := by kernel_rfl
    have st1 : sizeT Tryz.prog 29 = some 2 := by kernel_rfl
    have ze : zeroOf Tryz.prog 29 = some (.agg #[.int .u8 0, .int .i64 0]) := by kernel_rfl
    have zi : zeroOf Tryz.prog 3 = some (.int .i64 0) := by kernel_rfl
    have bu : buildV Tryz.prog 29 [] = some (.agg #[.int .u8 0, .int .i64 0]) := by kernel_rfl
    have el : elemOf Tryz.prog 96 = some (none, 4) := by kernel_rfl
    have co : codeOf Tryz.prog 59 = true := by kernel_rfl
    have ci : codeOf Tryz.prog 95 = true := by kernel_rfl
    have hr' : ∀ x y w : Option AObj, (((o.put nx x).put (nx + 1) y).put (nx + 2) w).get i = some (.row [s, .map (some m)] 98 z true) := fun x y w => by
      rw [qF _ _ _ _ (by omega), qF _ _ _ _ (by omega), qF _ _ _ _ (by omega)]; exact hr
    have hl : ∀ H : AHeap, H.get m = some (.map es c) → aLookup Tryz.prog 95 (.map (some m)) (.agg #[.int .u8 k.1, .int .i64 k.2]) true H = _ := fun H hg => aLookup_by key_vv Tryz.underlying95 zi hg hmap k true
    rw [y_fn (rs := [.cell 4 29, .cell 5 29, .tmp 6]) (hO _ (by decide)) Tryz.func107 rfl (by kernel_rfl) rfl rfl]
    obtain ⟨a, c', rfl, hpl, hcutv, hcutk, hrow⟩ : ∃ a c', s = .slice a l.length c' ∧ True ∧ True ∧ True ∧ ((a = none ∧ c' = 0 ∧ l = []) ∨ ∃ j rest, a = some ⟨j, 0, none⟩ ∧ c' = 0 ∧ j < nx ∧ o.get j = some (.row (cellsOf l ++ rest) 102 4 true)) := by
      rcases hs with ⟨rfl, rfl⟩ | ⟨j, rest, rfl, hj, _, _, hrow⟩
      · exact ⟨none, 0, rfl, trivial, trivial, trivial, .inl ⟨rfl, rfl, rfl⟩⟩
      · exact ⟨_, 0, rfl, trivial, trivial, trivial, .inr ⟨j, rest, rfl, rfl, hj, hrow⟩⟩
    have hnil : l = [] → nextL l k = if k.1 = 0 then ((0, 0), (0, 0), 0) else ((0, 0), (0, 0), 2) := fun h => by subst h; rfl
    rcases hrow with ⟨rfl, rfl, rfl⟩ | ⟨j, rest, rfl, rfl, hj, hrow⟩
    · have hix := fun o nx' lg' => index_ok hO (n := n + 2) (g := 126) (pr := fun p => !isDead p) (by kernel_rfl) (fun o nx lg p => live_ok hO p) (o := o) (nx := nx') (lg := lg') (a := none) (l := []) (c := 0) (.inl rfl) (by simp) (by simp)
      simp only [List.length_nil] at hix
      rw [hnil rfl]
      by_cases hk : k.1 = 0
      · have hd : decide (k.1 = 0) = true := decide_eq_true hk
        rw [if_pos hk]
        simp (maxDischargeDepth := 6) only [za, zb, zd, zg, zh, zj, zl, zm, zn, zp, zq, zr, zu, zw, zx, zy, zA, zB, zC, zD, zE, zF, zG, zH, zI, zJ, zK, zL, zM, zN, zO, zP, zQ, zR, zS, zT, zU, zV, zW, List.any_nil, zX, List.isEmpty_nil, Bool.true_or, Bool.or_true, zY, zZ, qb, qc, qd, qe, qf, qg, qh, qi, qj, qk, qo, qp, qr, qs, qt, qu, qx, qy, qz, qA, qB, qC, qD, qE, qF, Tr.get_nil, qG, qH, qI, qJ, qK, qL, qM, qN, qO, qP, qQ, qR, qS, qT, qU, qV, qW, qX, qY, qZ, ja, jb, jc, jd, rowAt, Option.getD_some, Option.getD_none, Option.bind_some, Option.bind_none, Option.map_some, Option.map_none, ↓jg, ↓ji, List.length_cons, List.length_nil, List.getElem?_cons_succ, List.getElem?_cons_zero, Nat.reduceAdd, Nat.reduceEqDiff, ne_eq, not_false_eq_true, Nat.add_zero, Nat.zero_add, Nat.add_assoc, List.map_cons, List.map_nil, List.nil_append, List.append_nil, List.cons_append, Bool.not_true, Bool.not_false, jk, jn, jo, jp, jq, jr, Nat.add_left_cancel_iff, js, List.all_nil, jt, ju, Bool.and_self, Bool.and_true, Bool.true_and, true_and, and_true, jv, jw, jx, jy, jz, jA, jB, jC, jD, jE, jF, jG, jH, jI, jJ, jK, jL, jM, jN, jO, jP, jQ, jR, jS, jT, jU, jV, jW, jX, jY, jZ, Ja, List.set_cons_zero, List.set_cons_succ, Nat.reduceLT, and_self, if_true, ite_true, List.size_toArray, Nat.lt_add_one, Nat.zero_lt_succ, List.getElem?_toArray, Jb, Jc, Jd, Je, Jf, Jg, Jh, Ji, Jj, Jk, Jl, Int.reduceLE, Int.reduceLT, Int.reduceEq, Int.reduceNeg, Int.reduceAdd, decide_true, decide_false, Jm, Jn, Jo, Jp, Jq, Jr, Bool.or_false, Bool.false_or, Bool.false_and, Bool.and_false, Bool.or_self, Js, Jt, Ju, Jv, Jw, Jx, Jy, Jz, JA, JB, JC, JD, JE, JF, JG, JH, JI, JJ, JK, JL, JM, JN, JO, JP, JQ, JR, JS, JT, JU, JV, JW, JX, JY, JZ, Nat.reduceSub, if_false, ite_false, vv, fo, fo0, fo1, fo2, fo3, hr, he, hl, aLoad_one szk, aLoad_one sz, aLoad_one sz0, aLoad_agg sz1, aStore_at st1, st_indexAddr _ el, ze, bu, calleeV_func _ _ _ co, calleeV_func _ _ _ ci, right_ok hO (hr' _ _ _), hi, hm, hd, slice_nil0 el, hix, firstIx, ixInt]
        exact Ja (by simp only [all_relogL, js, ju, List.all_nil, Bool.and_self]) rfl
      · have hd : decide (k.1 = 0) = false := decide_eq_false hk
        rw [if_neg hk]
        simp (maxDischargeDepth := 6) only [za, zb, zd, zg, zh, zj, zl, zm, zn, zp, zq, zr, zu, zw, zx, zy, zA, zB, zC, zD, zE, zF, zG, zH, zI, zJ, zK, zL, zM, zN, zO, zP, zQ, zR, zS, zT, zU, zV, zW, List.any_nil, zX, List.isEmpty_nil, Bool.true_or, Bool.or_true, zY, zZ, qb, qc, qd, qe, qf, qg, qh, qi, qj, qk, qo, qp, qr, qs, qt, qu, qx, qy, qz, qA, qB, qC, qD, qE, qF, Tr.get_nil, qG, qH, qI, qJ, qK, qL, qM, qN, qO, qP, qQ, qR, qS, qT, qU, qV, qW, qX, qY, qZ, ja, jb, jc, jd, rowAt, Option.getD_some, Option.getD_none, Option.bind_some, Option.bind_none, Option.map_some, Option.map_none, ↓jg, ↓ji, List.length_cons, List.length_nil, List.getElem?_cons_succ, List.getElem?_cons_zero, Nat.reduceAdd, Nat.reduceEqDiff, ne_eq, not_false_eq_true, Nat.add_zero, Nat.zero_add, Nat.add_assoc, List.map_cons, List.map_nil, List.nil_append, List.append_nil, List.cons_append, Bool.not_true, Bool.not_false, jk, jn, jo, jp, jq, jr, Nat.add_left_cancel_iff, js, List.all_nil, jt, ju, Bool.and_self, Bool.and_true, Bool.true_and, true_and, and_true, jv, jw, jx, jy, jz, jA, jB, jC, jD, jE, jF, jG, jH, jI, jJ, jK, jL, jM, jN, jO, jP, jQ, jR, jS, jT, jU, jV, jW, jX, jY, jZ, Ja, List.set_cons_zero, List.set_cons_succ, Nat.reduceLT, and_self, if_true, ite_true, List.size_toArray, Nat.lt_add_one, Nat.zero_lt_succ, List.getElem?_toArray, Jb, Jc, Jd, Je, Jf, Jg, Jh, Ji, Jj, Jk, Jl, Int.reduceLE, Int.reduceLT, Int.reduceEq, Int.reduceNeg, Int.reduceAdd, decide_true, decide_false, Jm, Jn, Jo, Jp, Jq, Jr, Bool.or_false, Bool.false_or, Bool.false_and, Bool.and_false, Bool.or_self, Js, Jt, Ju, Jv, Jw, Jx, Jy, Jz, JA, JB, JC, JD, JE, JF, JG, JH, JI, JJ, JK, JL, JM, JN, JO, JP, JQ, JR, JS, JT, JU, JV, JW, JX, JY, JZ, Nat.reduceSub, if_false, ite_false, vv, fo, fo0, fo1, fo2, fo3, hr, he, hl, findK, kvFrom, aLoad_one szk, aLoad_one sz, aLoad_one sz0, aLoad_agg sz1, aStore_at st1, st_indexAddr _ el, ze, bu, calleeV_func _ _ _ co, calleeV_func _ _ _ ci, right_ok hO (hr' _ _ _), hi, hm, hd, slice_nil0 el, hix, firstIx, ixInt]
        exact Ja (by simp only [all_relogL, js, ju, List.all_nil, Bool.and_self]) rfl
    · have hixs : ∀ s, s < l.length → ∀ (o' : Tr AObj) (nx' : Nat) (lg' : List Nat), o'.get j = some (.row (cellsOf l ++ rest) 102 4 true) → j < nx' →
          oCall Tryz.prog [] O (n + 3) 95 [.slice (some ⟨j, s * 4, none⟩) (l.length - s) 0, .func (.func 126) #[] #[]] ⟨o', nx', lg'⟩ = some (.int .i64 (ixInt (firstIx (fun p => !isDead p) (l.drop s))), ⟨o', nx', lg'⟩) := fun s hs o' nx' lg' hrow' hj' => by
        have := index_ok hO (n := n + 2) (g := 126) (pr := fun p => !isDead p) (by kernel_rfl) (fun o nx lg p => live_ok hO p) (o := o') (nx := nx') (lg := lg') (a := some ⟨j, s * 4, none⟩) (l := l.drop s) (c := 0)
          (.inr ⟨j, s * 4, _, _, _, _, rfl, hj', hrow', fun r p hp => by
            rw [List.getElem?_drop] at hp
            have := cut_place hp rest
            rwa [Nat.add_mul] at this⟩) (by simp; omega) (by simp; omega)
        rwa [List.length_drop] at this
      have hix0 := fun o nx' lg' => index_ok hO (n := n + 2) (g := 126) (pr := fun p => !isDead p) (by kernel_rfl) (fun o nx lg p => live_ok hO p) (o := o) (nx := nx') (lg := lg') (a := some ⟨j, 0, none⟩) (l := []) (c := 0) (.inl rfl) (by simp) (by simp)
      simp only [List.length_nil] at hix0
      by_cases hk : k.1 = 0
      · have hd : decide (k.1 = 0) = true := decide_eq_true hk
        have hnx : nextL l k = nextFrom l 0 := by simp only [nextL, hk, if_true]
        rw [hnx]
        by_cases h0 : 0 < l.length
        · have h0' : ¬ 0 = l.length := by omega
          have hixs0 := hixs 0 h0
          simp only [Nat.zero_mul, Nat.sub_zero, List.drop_zero] at hixs0
          cases hf : firstIx (fun p => !isDead p) l with
          | none =>
            simp only [hf] at hixs0
            simp (maxDischargeDepth := 6) only [za, zb, zd, zg, zh, zj, zl, zm, zn, zp, zq, zr, zu, zw, zx, zy, zA, zB, zC, zD, zE, zF, zG, zH, zI, zJ, zK, zL, zM, zN, zO, zP, zQ, zR, zS, zT, zU, zV, zW, List.any_nil, zX, List.isEmpty_nil, Bool.true_or, Bool.or_true, zY, zZ, qb, qc, qd, qe, qf, qg, qh, qi, qj, qk, qo, qp, qr, qs, qt, qu, qx, qy, qz, qA, qB, qC, qD, qE, qF, Tr.get_nil, qG, qH, qI, qJ, qK, qL, qM, qN, qO, qP, qQ, qR, qS, qT, qU, qV, qW, qX, qY, qZ, ja, jb, jc, jd, rowAt, Option.getD_some, Option.getD_none, Option.bind_some, Option.bind_none, Option.map_some, Option.map_none, ↓jg, ↓ji, List.length_cons, List.length_nil, List.getElem?_cons_succ, List.getElem?_cons_zero, Nat.reduceAdd, Nat.reduceEqDiff, ne_eq, not_false_eq_true, Nat.add_zero, Nat.zero_add, Nat.add_assoc, List.map_cons, List.map_nil, List.nil_append, List.append_nil, List.cons_append, Bool.not_true, Bool.not_false, jk, jn, jo, jp, jq, jr, Nat.add_left_cancel_iff, js, List.all_nil, jt, ju, Bool.and_self, Bool.and_true, Bool.true_and, true_and, and_true, jv, jw, jx, jy, jz, jA, jB, jC, jD, jE, jF, jG, jH, jI, jJ, jK, jL, jM, jN, jO, jP, jQ, jR, jS, jT, jU, jV, jW, jX, jY, jZ, Ja, List.set_cons_zero, List.set_cons_succ, Nat.reduceLT, and_self, if_true, ite_true, List.size_toArray, Nat.lt_add_one, Nat.zero_lt_succ, List.getElem?_toArray, Jb, Jc, Jd, Je, Jf, Jg, Jh, Ji, Jj, Jk, Jl, Int.reduceLE, Int.reduceLT, Int.reduceEq, Int.reduceNeg, Int.reduceAdd, decide_true, decide_false, Jm, Jn, Jo, Jp, Jq, Jr, Bool.or_false, Bool.false_or, Bool.false_and, Bool.and_false, Bool.or_self, Js, Jt, Ju, Jv, Jw, Jx, Jy, Jz, JA, JB, JC, JD, JE, JF, JG, JH, JI, JJ, JK, JL, JM, JN, JO, JP, JQ, JR, JS, JT, JU, JV, JW, JX, JY, JZ, Nat.reduceSub, if_false, ite_false, vv, fo, fo0, fo1, fo2, fo3, hr, he, hl, hrow, hj, aLoad_one szk, aLoad_one sz, aLoad_one sz0, aLoad_agg sz1, aStore_at st1, st_indexAddr _ el, ze, bu, calleeV_func _ _ _ co, calleeV_func _ _ _ ci, right_ok hO (hr' _ _ _), hi, hm, hd, slice_from0 el (et := 102) (w := true) (cells := cellsOf l ++ rest), h0', if_false, ite_false, Nat.zero_mul, Nat.sub_zero, hixs0, ixInt]
            have hres : nextFrom l 0 = ((0, 0), (0, 0), 0) := by simp only [nextFrom, List.drop_zero, hf]
            rw [hres]
            exact Ja (by simp only [all_relogL, js, ju, List.all_nil, Bool.and_self]) rfl
          | some r =>
            obtain ⟨p, hp, hlive⟩ := firstIx_some hf
            have hrl := (List.getElem?_eq_some_iff.1 hp).1
            have hb : Nat.blt r l.length = true := by rw [Nat.blt_eq]; exact hrl
            have hcv := cut_value hp rest
            have hck := cut_key hp rest
            have hge : decide ((0 : Int) ≤ Int.ofNat r) = true := decide_eq_true (Int.natCast_nonneg r)
            have hw0 : IntKind.i64.wrap (0 + Int.ofNat r) = Int.ofNat r := by rw [Int.zero_add]; exact wrap_small _ (by simp) (by simp; omega)
            have hres : nextFrom l 0 = (p.1, p.2, 0) := by simp only [nextFrom, List.drop_zero, hf, Nat.zero_add, hp]
            rw [hres]
            simp only [hf] at hixs0
            simp (maxDischargeDepth := 6) only [za, zb, zd, zg, zh, zj, zl, zm, zn, zp, zq, zr, zu, zw, zx, zy, zA, zB, zC, zD, zE, zF, zG, zH, zI, zJ, zK, zL, zM, zN, zO, zP, zQ, zR, zS, zT, zU, zV, zW, List.any_nil, zX, List.isEmpty_nil, Bool.true_or, Bool.or_true, zY, zZ, qb, qc, qd, qe, qf, qg, qh, qi, qj, qk, qo, qp, qr, qs, qt, qu, qx, qy, qz, qA, qB, qC, qD, qE, qF, Tr.get_nil, qG, qH, qI, qJ, qK, qL, qM, qN, qO, qP, qQ, qR, qS, qT, qU, qV, qW, qX, qY, qZ, ja, jb, jc, jd, rowAt, Option.getD_some, Option.getD_none, Option.bind_some, Option.bind_none, Option.map_some, Option.map_none, ↓jg, ↓ji, List.length_cons, List.length_nil, List.getElem?_cons_succ, List.getElem?_cons_zero, Nat.reduceAdd, Nat.reduceEqDiff, ne_eq, not_false_eq_true, Nat.add_zero, Nat.zero_add, Nat.add_assoc, List.map_cons, List.map_nil, List.nil_append, List.append_nil, List.cons_append, Bool.not_true, Bool.not_false, jk, jn, jo, jp, jq, jr, Nat.add_left_cancel_iff, js, List.all_nil, jt, ju, Bool.and_self, Bool.and_true, Bool.true_and, true_and, and_true, jv, jw, jx, jy, jz, jA, jB, jC, jD, jE, jF, jG, jH, jI, jJ, jK, jL, jM, jN, jO, jP, jQ, jR, jS, jT, jU, jV, jW, jX, jY, jZ, Ja, List.set_cons_zero, List.set_cons_succ, Nat.reduceLT, and_self, if_true, ite_true, List.size_toArray, Nat.lt_add_one, Nat.zero_lt_succ, List.getElem?_toArray, Jb, Jc, Jd, Je, Jf, Jg, Jh, Ji, Jj, Jk, Jl, Int.reduceLE, Int.reduceLT, Int.reduceEq, Int.reduceNeg, Int.reduceAdd, decide_true, decide_false, Jm, Jn, Jo, Jp, Jq, Jr, Bool.or_false, Bool.false_or, Bool.false_and, Bool.and_false, Bool.or_self, Js, Jt, Ju, Jv, Jw, Jx, Jy, Jz, JA, JB, JC, JD, JE, JF, JG, JH, JI, JJ, JK, JL, JM, JN, JO, JP, JQ, JR, JS, JT, JU, JV, JW, JX, JY, JZ, Nat.reduceSub, if_false, ite_false, vv, fo, fo0, fo1, fo2, fo3, hr, he, hl, hrow, hj, aLoad_one szk, aLoad_one sz, aLoad_one sz0, aLoad_agg sz1, aStore_at st1, st_indexAddr _ el, ze, bu, calleeV_func _ _ _ co, calleeV_func _ _ _ ci, right_ok hO (hr' _ _ _), hi, hm, hd, slice_from0 el (et := 102) (w := true) (cells := cellsOf l ++ rest), h0', if_false, ite_false, Nat.zero_mul, Nat.sub_zero, hixs0, ixInt, hge, hw0, indexAt, hb, hcv, hck, Option.isNone_none]
            refine ⟨by kernel_rfl, ?_⟩
            exact Ja (by simp only [all_relogL, js, ju, List.all_nil, Bool.and_self]) rfl
        · have hl0 : l = [] := List.eq_nil_of_length_eq_zero (by omega)
          subst hl0
          simp (maxDischargeDepth := 6) only [za, zb, zd, zg, zh, zj, zl, zm, zn, zp, zq, zr, zu, zw, zx, zy, zA, zB, zC, zD, zE, zF, zG, zH, zI, zJ, zK, zL, zM, zN, zO, zP, zQ, zR, zS, zT, zU, zV, zW, List.any_nil, zX, List.isEmpty_nil, Bool.true_or, Bool.or_true, zY, zZ, qb, qc, qd, qe, qf, qg, qh, qi, qj, qk, qo, qp, qr, qs, qt, qu, qx, qy, qz, qA, qB, qC, qD, qE, qF, Tr.get_nil, qG, qH, qI, qJ, qK, qL, qM, qN, qO, qP, qQ, qR, qS, qT, qU, qV, qW, qX, qY, qZ, ja, jb, jc, jd, rowAt, Option.getD_some, Option.getD_none, Option.bind_some, Option.bind_none, Option.map_some, Option.map_none, ↓jg, ↓ji, List.length_cons, List.length_nil, List.getElem?_cons_succ, List.getElem?_cons_zero, Nat.reduceAdd, Nat.reduceEqDiff, ne_eq, not_false_eq_true, Nat.add_zero, Nat.zero_add, Nat.add_assoc, List.map_cons, List.map_nil, List.nil_append, List.append_nil, List.cons_append, Bool.not_true, Bool.not_false, jk, jn, jo, jp, jq, jr, Nat.add_left_cancel_iff, js, List.all_nil, jt, ju, Bool.and_self, Bool.and_true, Bool.true_and, true_and, and_true, jv, jw, jx, jy, jz, jA, jB, jC, jD, jE, jF, jG, jH, jI, jJ, jK, jL, jM, jN, jO, jP, jQ, jR, jS, jT, jU, jV, jW, jX, jY, jZ, Ja, List.set_cons_zero, List.set_cons_succ, Nat.reduceLT, and_self, if_true, ite_true, List.size_toArray, Nat.lt_add_one, Nat.zero_lt_succ, List.getElem?_toArray, Jb, Jc, Jd, Je, Jf, Jg, Jh, Ji, Jj, Jk, Jl, Int.reduceLE, Int.reduceLT, Int.reduceEq, Int.reduceNeg, Int.reduceAdd, decide_true, decide_false, Jm, Jn, Jo, Jp, Jq, Jr, Bool.or_false, Bool.false_or, Bool.false_and, Bool.and_false, Bool.or_self, Js, Jt, Ju, Jv, Jw, Jx, Jy, Jz, JA, JB, JC, JD, JE, JF, JG, JH, JI, JJ, JK, JL, JM, JN, JO, JP, JQ, JR, JS, JT, JU, JV, JW, JX, JY, JZ, Nat.reduceSub, if_false, ite_false, vv, fo, fo0, fo1, fo2, fo3, hr, he, hl, hrow, hj, aLoad_one szk, aLoad_one sz, aLoad_one sz0, aLoad_agg sz1, aStore_at st1, st_indexAddr _ el, ze, bu, calleeV_func _ _ _ co, calleeV_func _ _ _ ci, right_ok hO (hr' _ _ _), hi, hm, hd, List.length_nil, slice_from0 el (et := 102) (w := true) (cells := cellsOf [] ++ rest), hix0, firstIx, ixInt]
          exact Ja (by simp only [all_relogL, js, ju, List.all_nil, Bool.and_self]) rfl
      · have hd : decide (k.1 = 0) = false := decide_eq_false hk
        rcases kv_find k l 0 0 with ⟨h1, h2⟩ | ⟨r0, v, h1, h2, h3⟩
        · rw [h1] at hl
          have hres : nextL l k = ((0, 0), (0, 0), 2) := by simp only [nextL, hk, if_false, h1]
          rw [hres]
          simp (maxDischargeDepth := 6) only [za, zb, zd, zg, zh, zj, zl, zm, zn, zp, zq, zr, zu, zw, zx, zy, zA, zB, zC, zD, zE, zF, zG, zH, zI, zJ, zK, zL, zM, zN, zO, zP, zQ, zR, zS, zT, zU, zV, zW, List.any_nil, zX, List.isEmpty_nil, Bool.true_or, Bool.or_true, zY, zZ, qb, qc, qd, qe, qf, qg, qh, qi, qj, qk, qo, qp, qr, qs, qt, qu, qx, qy, qz, qA, qB, qC, qD, qE, qF, Tr.get_nil, qG, qH, qI, qJ, qK, qL, qM, qN, qO, qP, qQ, qR, qS, qT, qU, qV, qW, qX, qY, qZ, ja, jb, jc, jd, rowAt, Option.getD_some, Option.getD_none, Option.bind_some, Option.bind_none, Option.map_some, Option.map_none, ↓jg, ↓ji, List.length_cons, List.length_nil, List.getElem?_cons_succ, List.getElem?_cons_zero, Nat.reduceAdd, Nat.reduceEqDiff, ne_eq, not_false_eq_true, Nat.add_zero, Nat.zero_add, Nat.add_assoc, List.map_cons, List.map_nil, List.nil_append, List.append_nil, List.cons_append, Bool.not_true, Bool.not_false, jk, jn, jo, jp, jq, jr, Nat.add_left_cancel_iff, js, List.all_nil, jt, ju, Bool.and_self, Bool.and_true, Bool.true_and, true_and, and_true, jv, jw, jx, jy, jz, jA, jB, jC, jD, jE, jF, jG, jH, jI, jJ, jK, jL, jM, jN, jO, jP, jQ, jR, jS, jT, jU, jV, jW, jX, jY, jZ, Ja, List.set_cons_zero, List.set_cons_succ, Nat.reduceLT, and_self, if_true, ite_true, List.size_toArray, Nat.lt_add_one, Nat.zero_lt_succ, List.getElem?_toArray, Jb, Jc, Jd, Je, Jf, Jg, Jh, Ji, Jj, Jk, Jl, Int.reduceLE, Int.reduceLT, Int.reduceEq, Int.reduceNeg, Int.reduceAdd, decide_true, decide_false, Jm, Jn, Jo, Jp, Jq, Jr, Bool.or_false, Bool.false_or, Bool.false_and, Bool.and_false, Bool.or_self, Js, Jt, Ju, Jv, Jw, Jx, Jy, Jz, JA, JB, JC, JD, JE, JF, JG, JH, JI, JJ, JK, JL, JM, JN, JO, JP, JQ, JR, JS, JT, JU, JV, JW, JX, JY, JZ, Nat.reduceSub, if_false, ite_false, vv, fo, fo0, fo1, fo2, fo3, hr, he, hl, hrow, hj, aLoad_one szk, aLoad_one sz, aLoad_one sz0, aLoad_agg sz1, aStore_at st1, st_indexAddr _ el, ze, bu, calleeV_func _ _ _ co, calleeV_func _ _ _ ci, right_ok hO (hr' _ _ _), hi, hm, hd]
          exact Ja (by simp only [all_relogL, js, ju, List.all_nil, Bool.and_self]) rfl
        · rw [h2] at hl
          have hr0 := (List.getElem?_eq_some_iff.1 h1).1
          rw [Nat.zero_add] at hl h2
          have hres : nextL l k = nextFrom l (r0 + 1) := by simp only [nextL, hk, if_false, h2]
          rw [hres]
          have hw1 := wrap_succ r0 (by omega)
          by_cases hs : r0 + 1 < l.length
          · have hs' : ¬ r0 + 1 = l.length := by omega
            have hix1 := hixs (r0 + 1) hs
            have hsl : ∀ H : AHeap, H.get j = some (.row (cellsOf l ++ rest) 102 4 true) → aSlice Tryz.prog 96 (.slice (some ⟨j, 0, none⟩) l.length 0) (some (.int .i64 (.ofNat (r0 + 1)))) none none H = some (.slice (some ⟨j, (r0 + 1) * 4, none⟩) (l.length - (r0 + 1)) 0) := fun H hg => by
              rw [slice_from el hg (Nat.le_of_lt hs), if_neg hs', Nat.zero_add]
            cases hf : firstIx (fun p => !isDead p) (l.drop (r0 + 1)) with
            | none =>
              simp only [hf] at hix1
              have hres : nextFrom l (r0 + 1) = ((0, 0), (0, 0), 0) := by simp only [nextFrom, hf]
              rw [hres]
              simp (maxDischargeDepth := 6) only [za, zb, zd, zg, zh, zj, zl, zm, zn, zp, zq, zr, zu, zw, zx, zy, zA, zB, zC, zD, zE, zF, zG, zH, zI, zJ, zK, zL, zM, zN, zO, zP, zQ, zR, zS, zT, zU, zV, zW, List.any_nil, zX, List.isEmpty_nil, Bool.true_or, Bool.or_true, zY, zZ, qb, qc, qd, qe, qf, qg, qh, qi, qj, qk, qo, qp, qr, qs, qt, qu, qx, qy, qz, qA, qB, qC, qD, qE, qF, Tr.get_nil, qG, qH, qI, qJ, qK, qL, qM, qN, qO, qP, qQ, qR, qS, qT, qU, qV, qW, qX, qY, qZ, ja, jb, jc, jd, rowAt, Option.getD_some, Option.getD_none, Option.bind_some, Option.bind_none, Option.map_some, Option.map_none, ↓jg, ↓ji, List.length_cons, List.length_nil, List.getElem?_cons_succ, List.getElem?_cons_zero, Nat.reduceAdd, Nat.reduceEqDiff, ne_eq, not_false_eq_true, Nat.add_zero, Nat.zero_add, Nat.add_assoc, List.map_cons, List.map_nil, List.nil_append, List.append_nil, List.cons_append, Bool.not_true, Bool.not_false, jk, jn, jo, jp, jq, jr, Nat.add_left_cancel_iff, js, List.all_nil, jt, ju, Bool.and_self, Bool.and_true, Bool.true_and, true_and, and_true, jv, jw, jx, jy, jz, jA, jB, jC, jD, jE, jF, jG, jH, jI, jJ, jK, jL, jM, jN, jO, jP, jQ, jR, jS, jT, jU, jV, jW, jX, jY, jZ, Ja, List.set_cons_zero, List.set_cons_succ, Nat.reduceLT, and_self, if_true, ite_true, List.size_toArray, Nat.lt_add_one, Nat.zero_lt_succ, List.getElem?_toArray, Jb, Jc, Jd, Je, Jf, Jg, Jh, Ji, Jj, Jk, Jl, Int.reduceLE, Int.reduceLT, Int.reduceEq, Int.reduceNeg, Int.reduceAdd, decide_true, decide_false, Jm, Jn, Jo, Jp, Jq, Jr, Bool.or_false, Bool.false_or, Bool.false_and, Bool.and_false, Bool.or_self, Js, Jt, Ju, Jv, Jw, Jx, Jy, Jz, JA, JB, JC, JD, JE, JF, JG, JH, JI, JJ, JK, JL, JM, JN, JO, JP, JQ, JR, JS, JT, JU, JV, JW, JX, JY, JZ, Nat.reduceSub, if_false, ite_false, vv, fo, fo0, fo1, fo2, fo3, hr, he, hl, hrow, hj, aLoad_one szk, aLoad_one sz, aLoad_one sz0, aLoad_agg sz1, aStore_at st1, st_indexAddr _ el, ze, bu, calleeV_func _ _ _ co, calleeV_func _ _ _ ci, right_ok hO (hr' _ _ _), hi, hm, hd, hw1, hsl, hix1, ixInt]
              exact Ja (by simp only [all_relogL, js, ju, List.all_nil, Bool.and_self]) rfl
            | some r =>
              obtain ⟨p, hp, hlive⟩ := firstIx_some hf
              rw [List.getElem?_drop, Nat.add_assoc] at hp
              have hrl := (List.getElem?_eq_some_iff.1 hp).1
              have hb : Nat.blt (r0 + (1 + r)) l.length = true := by rw [Nat.blt_eq]; exact hrl
              have hcv := cut_value hp rest
              have hck := cut_key hp rest
              have hge : decide ((0 : Int) ≤ Int.ofNat r) = true := decide_eq_true (Int.natCast_nonneg r)
              have hw0 : IntKind.i64.wrap (Int.ofNat (r0 + 1) + Int.ofNat r) = Int.ofNat (r0 + (1 + r)) := by
                rw [show Int.ofNat (r0 + 1) + Int.ofNat r = Int.ofNat (r0 + (1 + r)) from by simp; omega]; exact wrap_small _ (by simp; omega) (by simp; omega)
              have hres : nextFrom l (r0 + 1) = (p.1, p.2, 0) := by simp only [nextFrom, hf, Nat.add_assoc, hp]
              rw [hres]
              simp only [hf] at hix1
              simp (maxDischargeDepth := 6) only [za, zb, zd, zg, zh, zj, zl, zm, zn, zp, zq, zr, zu, zw, zx, zy, zA, zB, zC, zD, zE, zF, zG, zH, zI, zJ, zK, zL, zM, zN, zO, zP, zQ, zR, zS, zT, zU, zV, zW, List.any_nil, zX, List.isEmpty_nil, Bool.true_or, Bool.or_true, zY, zZ, qb, qc, qd, qe, qf, qg, qh, qi, qj, qk, qo, qp, qr, qs, qt, qu, qx, qy, qz, qA, qB, qC, qD, qE, qF, Tr.get_nil, qG, qH, qI, qJ, qK, qL, qM, qN, qO, qP, qQ, qR, qS, qT, qU, qV, qW, qX, qY, qZ, ja, jb, jc, jd, rowAt, Option.getD_some, Option.getD_none, Option.bind_some, Option.bind_none, Option.map_some, Option.map_none, ↓jg, ↓ji, List.length_cons, List.length_nil, List.getElem?_cons_succ, List.getElem?_cons_zero, Nat.reduceAdd, Nat.reduceEqDiff, ne_eq, not_false_eq_true, Nat.add_zero, Nat.zero_add, Nat.add_assoc, List.map_cons, List.map_nil, List.nil_append, List.append_nil, List.cons_append, Bool.not_true, Bool.not_false, jk, jn, jo, jp, jq, jr, Nat.add_left_cancel_iff, js, List.all_nil, jt, ju, Bool.and_self, Bool.and_true, Bool.true_and, true_and, and_true, jv, jw, jx, jy, jz, jA, jB, jC, jD, jE, jF, jG, jH, jI, jJ, jK, jL, jM, jN, jO, jP, jQ, jR, jS, jT, jU, jV, jW, jX, jY, jZ, Ja, List.set_cons_zero, List.set_cons_succ, Nat.reduceLT, and_self, if_true, ite_true, List.size_toArray, Nat.lt_add_one, Nat.zero_lt_succ, List.getElem?_toArray, Jb, Jc, Jd, Je, Jf, Jg, Jh, Ji, Jj, Jk, Jl, Int.reduceLE, Int.reduceLT, Int.reduceEq, Int.reduceNeg, Int.reduceAdd, decide_true, decide_false, Jm, Jn, Jo, Jp, Jq, Jr, Bool.or_false, Bool.false_or, Bool.false_and, Bool.and_false, Bool.or_self, Js, Jt, Ju, Jv, Jw, Jx, Jy, Jz, JA, JB, JC, JD, JE, JF, JG, JH, JI, JJ, JK, JL, JM, JN, JO, JP, JQ, JR, JS, JT, JU, JV, JW, JX, JY, JZ, Nat.reduceSub, if_false, ite_false, vv, fo, fo0, fo1, fo2, fo3, hr, he, hl, hrow, hj, aLoad_one szk, aLoad_one sz, aLoad_one sz0, aLoad_agg sz1, aStore_at st1, st_indexAddr _ el, ze, bu, calleeV_func _ _ _ co, calleeV_func _ _ _ ci, right_ok hO (hr' _ _ _), hi, hm, hd, hw1, hsl, hix1, ixInt, hge, hw0, indexAt, hb, hcv, hck, Option.isNone_none]
              refine ⟨by kernel_rfl, ?_⟩
              exact Ja (by simp only [all_relogL, js, ju, List.all_nil, Bool.and_self]) rfl
          · have hs' : r0 + 1 = l.length := by omega
            have hsl : ∀ H : AHeap, H.get j = some (.row (cellsOf l ++ rest) 102 4 true) → aSlice Tryz.prog 96 (.slice (some ⟨j, 0, none⟩) l.length 0) (some (.int .i64 (.ofNat (r0 + 1)))) none none H = some (.slice (some ⟨j, 0, none⟩) 0 0) := fun H hg => by
              rw [slice_from el hg (Nat.le_of_eq hs'), if_pos hs']
            have hdrop : l.drop (r0 + 1) = [] := List.drop_eq_nil_of_le (by omega)
            have hres : nextFrom l (r0 + 1) = ((0, 0), (0, 0), 0) := by simp only [nextFrom, hdrop, firstIx]
            rw [hres]
            simp (maxDischargeDepth := 6) only [za, zb, zd, zg, zh, zj, zl, zm, zn, zp, zq, zr, zu, zw, zx, zy, zA, zB, zC, zD, zE, zF, zG, zH, zI, zJ, zK, zL, zM, zN, zO, zP, zQ, zR, zS, zT, zU, zV, zW, List.any_nil, zX, List.isEmpty_nil, Bool.true_or, Bool.or_true, zY, zZ, qb, qc, qd, qe, qf, qg, qh, qi, qj, qk, qo, qp, qr, qs, qt, qu, qx, qy, qz, qA, qB, qC, qD, qE, qF, Tr.get_nil, qG, qH, qI, qJ, qK, qL, qM, qN, qO, qP, qQ, qR, qS, qT, qU, qV, qW, qX, qY, qZ, ja, jb, jc, jd, rowAt, Option.getD_some, Option.getD_none, Option.bind_some, Option.bind_none, Option.map_some, Option.map_none, ↓jg, ↓ji, List.length_cons, List.length_nil, List.getElem?_cons_succ, List.getElem?_cons_zero, Nat.reduceAdd, Nat.reduceEqDiff, ne_eq, not_false_eq_true, Nat.add_zero, Nat.zero_add, Nat.add_assoc, List.map_cons, List.map_nil, List.nil_append, List.append_nil, List.cons_append, Bool.not_true, Bool.not_false, jk, jn, jo, jp, jq, jr, Nat.add_left_cancel_iff, js, List.all_nil, jt, ju, Bool.and_self, Bool.and_true, Bool.true_and, true_and, and_true, jv, jw, jx, jy, jz, jA, jB, jC, jD, jE, jF, jG, jH, jI, jJ, jK, jL, jM, jN, jO, jP, jQ, jR, jS, jT, jU, jV, jW, jX, jY, jZ, Ja, List.set_cons_zero, List.set_cons_succ, Nat.reduceLT, and_self, if_true, ite_true, List.size_toArray, Nat.lt_add_one, Nat.zero_lt_succ, List.getElem?_toArray, Jb, Jc, Jd, Je, Jf, Jg, Jh, Ji, Jj, Jk, Jl, Int.reduceLE, Int.reduceLT, Int.reduceEq, Int.reduceNeg, Int.reduceAdd, decide_true, decide_false, Jm, Jn, Jo, Jp, Jq, Jr, Bool.or_false, Bool.false_or, Bool.false_and, Bool.and_false, Bool.or_self, Js, Jt, Ju, Jv, Jw, Jx, Jy, Jz, JA, JB, JC, JD, JE, JF, JG, JH, JI, JJ, JK, JL, JM, JN, JO, JP, JQ, JR, JS, JT, JU, JV, JW, JX, JY, JZ, Nat.reduceSub, if_false, ite_false, vv, fo, fo0, fo1, fo2, fo3, hr, he, hl, hrow, hj, aLoad_one szk, aLoad_one sz, aLoad_one sz0, aLoad_agg sz1, aStore_at st1, st_indexAddr _ el, ze, bu, calleeV_func _ _ _ co, calleeV_func _ _ _ ci, right_ok hO (hr' _ _ _), hi, hm, hd, hw1, hsl, hix0, firstIx, ixInt]
            exact Ja (by simp only [all_relogL, js, ju, List.all_nil, Bool.and_self]) rfl
  obtain ⟨a, h1, rfl⟩ := this
  exact h1
end Go.Proofs.YtdfadipfhcikdaaGreatDoor
