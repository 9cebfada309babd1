/- The chapter of frames: its examples, by the abstract machine. -/
import Derived.Test.YtckahbnkdiamjaaProg
import Derived.Test.YtckahbnkdiamjaaAmB
import Derived.KernelRfl
import Derived.Test.YtckahbnkdiamjaaFrLaw0
namespace Go.Proofs.Ytckahbnkdiamjaa
open Go.RowKit
theorem awake18 (w : World) : Calls Try.prog 20 #[] w fun e w' => e = .returned (.bool true) ∧ Below w.heap.size w w' :=
  true_of_am (by kernel_rfl) 60 20 [] rfl (by kernel_rfl) w
def O18 : Helps := flatHelp 20 (.bool true)
theorem O18_sound : CallSound Try.prog [] (helpFn O18) := flatHelp_sound rfl awake18
end Go.Proofs.Ytckahbnkdiamjaa

namespace Go.Proofs.Ytckahbnkdiamjaa
open Go.RowKit
set_option linter.unusedSimpArgs false
set_option linter.unusedVariables false
set_option maxRecDepth 100000

theorem clear18 : Clear O18 := fun f hf => by
  have h : f ≠ 20 := fun e => hf (by rw [e]; decide)
  unfold O18 flatHelp
  rw [beqf h]; rfl
section
variable {z : List Value} {bx : List Bool} {L : LB} {o : Tr AObj} {nx : Nat} {lg : List Nat} {w : Nat → Nat} {B : HB} {hs : HS} {sa c : Nat} {sv : List VV} {now : List Int} {av : Value} {all : List Md} {ups : Value} {i k : Nat}
/-- Fresh in the law -/
theorem act_fresh (hO : Clear O18) (M : LawIn z bx L o nx w B hs sa c sv now av all ups) (R : VarF hs bx sv now all) (hR : Room hs i) (hi : i < 60) (hk : k < 5) {q : Nat} (hq : nx ≤ q) :
    Got (oCall Try.prog [] O18 999 14 [pV L.kp, .pointer (some ⟨B.i, 0, none⟩), .pointer (some ⟨L.kf, 0, none⟩), .int .i64 (.ofNat k), .agg #[.int .u8 3, .int .i64 (.ofNat (i + 1))]] ⟨o, q, []⟩) (ActTo bx L o q w sa (now.set k (.ofNat (i + 1))) (all.map (frM (.ofNat k))) i) := by
  have hn : Int.ofNat (i + 1) ≠ 0 := by simp only [Int.ofNat_eq_natCast]; omega
  obtain ⟨z1, z2, z3, z4, z5, z6, z7⟩ := M.mks.zero
  have r3 := hR.count; have r4 := hR.made; have r5 := hR.sizes
  cases hb : bx.getD k false with
  | false =>
    have hf := ffresh_ok (n := 993) (lg := []) hO (M.heap.more hq fun _ _ => rfl) R.good (M.prog.more hq fun _ _ => rfl) (M.fr.more hq fun _ _ => rfl) z4 z7 hk (3, .ofNat (i + 1)) (fun h => by rw [hb] at h; cases h) (by omega) (by omega) (by omega)
    rw [hb] at hf
    simp only [Bool.false_eq_true, if_false] at hf
    refine hf.mono ?_
    rintro r ⟨o2, nx2, l2, w2, B2, sa2, rfl, a1, a2, a3, a4, a5, a6, a7, a8, a9⟩
    exact ⟨o2, nx2, l2, w2, B2, _, sa2, _, _, rfl, a1, a2, a3.trans M.hB, a4, .inr a5, a6, a7, ⟨_, a9⟩, R.fresh0 hk hn hb, by rw [Int.natCast_add]; exact hR.up⟩
  | true =>
    obtain ⟨S1, S2, S3⟩ := R.fresh1 hR (by omega) hk hn hb
    have hf := ffresh_ok (n := 993) (lg := []) hO (M.heap.more hq fun _ _ => rfl) R.good (M.prog.more hq fun _ _ => rfl) (M.fr.more hq fun _ _ => rfl) z4 z7 hk (3, .ofNat (i + 1)) (fun h => S3) (by omega) (by omega) (by omega)
    rw [hb] at hf
    simp only [if_true] at hf
    refine hf.mono ?_
    rintro r ⟨o2, nx2, l2, w2, B2, sa2, rfl, a1, a2, a3, a4, a5, a6, a7, a8, a9⟩
    exact ⟨o2, nx2, l2, w2, B2, _, sa2, _, _, rfl, a1, a2, a3.trans M.hB, a4, .inr a5, a6, a7, ⟨_, a9⟩, S1, by rw [Int.natCast_add]; exact S2⟩
/-- Set in the law -/
theorem act_set (hO : Clear O18) (M : LawIn z bx L o nx w B hs sa c sv now av all ups) (R : VarF hs bx sv now all) (hR : Room hs i) (hnow : now.getD k 0 ≤ i) (hi : i < 60) (hk : k < 5) {q : Nat} (hq : nx ≤ q) :
    Got (oCall Try.prog [] O18 999 12 [pV L.kp, .pointer (some ⟨B.i, 0, none⟩), .pointer (some ⟨L.kf, 0, none⟩), .int .i64 (.ofNat k), .agg #[.int .u8 3, .int .i64 (.ofNat (i + 1))]] ⟨o, q, []⟩) (ActTo bx L o q w sa (now.set k (.ofNat (i + 1))) (all.map (setM (.ofNat k) (.ofNat (i + 1)))) i) := by
  have hn : Int.ofNat (i + 1) ≠ 0 := by simp only [Int.ofNat_eq_natCast]; omega
  obtain ⟨z1, z2, z3, z4, z5, z6, z7⟩ := M.mks.zero
  have r3 := hR.count; have r4 := hR.made; have r5 := hR.sizes
  have a1 := M.fr.ltf; have a2 := M.fr.lts
  by_cases hl : bx.getD k false = true ∧ now.getD k 0 ≠ 0
  · obtain ⟨S1, S2, S3⟩ := R.store hR hk hn hl.1 hl.2
    have h9 := (R.is9 hk).2 hl
    have hc := R.cell k hk hl.1 hl.2
    have hfo : (findO hs (sv.getD k (0, 0))).isSome = true := by obtain ⟨_, ob, e, _⟩ := hc; rw [e]; rfl
    have hf := fset_store (n := 994) (lg := []) hO (M.heap.more hq fun _ _ => rfl) R.good (M.prog.more hq fun _ _ => rfl) (M.fr.more hq fun _ _ => rfl) hk (3, .ofNat (i + 1)) hl.1 h9 hfo
    rw [S3] at hf
    refine hf.mono ?_
    rintro r ⟨o2, nx2, l2, w2, B2, rfl, b1, b2, b3, b4, b5, b6⟩
    refine ⟨o2, nx2, l2, w2, B2, _, sa, c, sv, rfl, b1, b2, b3.trans M.hB, M.fr.keep (by omega) (b4 _ (by omega) z4).1 (b4 _ (by omega) z7).1, .inl rfl, (b4 _ (by omega) z7).2, fun x hx hw => ⟨(b4 x hx hw).2, fun _ => (b4 x hx hw).1⟩, ?_, S1, by rw [Int.natCast_add]; exact S2⟩
    rcases b6 with ⟨x, hx, _⟩ | ⟨_, _, _, _, _, e⟩
    · exact ⟨x, hx⟩
    · exfalso
      have c1 := S1.cell k hk hl.1 (by rw [getD_setI _ _ _ _ _ (by rw [R.ln]; exact hk), if_pos rfl]; exact hn)
      rw [e, getD_setI _ _ _ _ _ (by rw [R.ln]; exact hk), if_pos rfl] at c1
      have e1 := c1.load
      rw [hc.load] at e1
      have e2 : now.getD k 0 = Int.ofNat (i + 1) := congrArg Prod.snd e1
      simp only [Int.ofNat_eq_natCast] at e2
      omega
  · have hno : bx.getD k false = false ∨ now.getD k 0 = 0 := by
      cases hb : bx.getD k false with
      | false => exact .inl rfl
      | true =>
        refine .inr ?_
        false_or_by_contra
        exact hl ⟨hb, by assumption⟩
    rw [show all.map (setM (.ofNat k) (.ofNat (i + 1))) = all.map (frM (.ofNat k)) from R.same hno _]
    have h9 : bx.getD k false = true → (sv.getD k (0, 0)).1 ≠ 9 := fun _ e => hl ((R.is9 hk).1 e)
    cases hb : bx.getD k false with
    | false =>
      have hf := fset_fresh (n := 992) (lg := []) hO (M.heap.more hq fun _ _ => rfl) R.good (M.prog.more hq fun _ _ => rfl) (M.fr.more hq fun _ _ => rfl) z4 z7 hk (3, .ofNat (i + 1)) h9 (fun h => by rw [hb] at h; cases h) (by omega) (by omega) (by omega)
      rw [hb] at hf
      simp only [Bool.false_eq_true, if_false] at hf
      refine hf.mono ?_
      rintro r ⟨o2, nx2, l2, w2, B2, sa2, rfl, a1, a2, a3, a4, a5, a6, a7, a8, a9⟩
      exact ⟨o2, nx2, l2, w2, B2, _, sa2, _, _, rfl, a1, a2, a3.trans M.hB, a4, .inr a5, a6, a7, ⟨_, a9⟩, R.fresh0 hk hn hb, by rw [Int.natCast_add]; exact hR.up⟩
    | true =>
      obtain ⟨S1, S2, S3⟩ := R.fresh1 hR (by omega) hk hn hb
      have hf := fset_fresh (n := 992) (lg := []) hO (M.heap.more hq fun _ _ => rfl) R.good (M.prog.more hq fun _ _ => rfl) (M.fr.more hq fun _ _ => rfl) z4 z7 hk (3, .ofNat (i + 1)) h9 (fun h => S3) (by omega) (by omega) (by omega)
      rw [hb] at hf
      simp only [if_true] at hf
      refine hf.mono ?_
      rintro r ⟨o2, nx2, l2, w2, B2, sa2, rfl, a1, a2, a3, a4, a5, a6, a7, a8, a9⟩
      exact ⟨o2, nx2, l2, w2, B2, _, sa2, _, _, rfl, a1, a2, a3.trans M.hB, a4, .inr a5, a6, a7, ⟨_, a9⟩, S1, by rw [Int.natCast_add]; exact S2⟩
theorem act_loud {o2 : Tr AObj} {now' : List Int} {all' : List Md} {q m : Nat} {r : Value × AHeap} (h : ActTo bx L o2 q w sa now' all' i r) : kindOf (.other (Nat.beq m r.2.next && r.2.log.isEmpty) r.2.log) = 4 := by
  obtain ⟨o2, nx2, l2, w2, B2, hs2, sa2, c2, sv2, rfl, _, _, _, _, _, _, _, ⟨x, hx⟩, _, _⟩ := h
  cases l2 with
  | nil => cases hx
  | cons a b => rfl
end
set_option maxHeartbeats 32000000 in
theorem law_c1 {z : List Value} {bx : List Bool} {L : LB} {oa : Option Addr} {len i k : Nat} {e : Tr Value} {H : AHeap} (h : LawSt z bx L oa len i i e H) (hi : i < 60) (hk : k < 5) (g16 : e.get 16 = some (.int .i64 (.ofNat k))) (g17 : e.get 17 = some (.int .i64 (.ofNat (i + 1)))) :
    Got (rCode Try.prog (oCall Try.prog [] O18 999) 999 (frC1 Try.f4) e H) fun s => ∃ e' H', s = (Way.on, e', H') ∧ LawSt z bx L oa len i (i + 1) e' H' := by
  have hO := clear18
  obtain ⟨o, nx, lg, w, B, hs, sa, c, sv, now, av, all, ups, rfl, M, R, hR, hal, hnl, E⟩ := h
  have g1 := E.g1; have g5 := E.g5; have g10 := E.g10; have g11 := E.g11; have g13 := E.g13; have g14 := E.g14; have g15 := E.g15
  rw [← M.hB] at g5
  have hnum := fun (o : Tr AObj) (nx : Nat) (lg : List Nat) => num_ok (n := 998) (o := o) (nx := nx) (lg := lg) hO (Int.ofNat (i + 1))
  have hprg := M.prg
  have hltt := M.ltt
  have d0 : decide (Int.ofNat k < 0) = false := decide_eq_false (by simp only [Int.ofNat_eq_natCast]; omega)
  have d5 : decide (5 ≤ k) = false := decide_eq_false (by omega)
  have l5 : Nat.blt k 5 = true := by rw [Nat.blt_eq]; exact hk
  refine n_seq ?_
  repeat (first | with_reducible (first | refine n_on ?_ | refine n_seq ?_ | refine s_else ?_ | refine n_t ?_ | refine n_gt ?_ | refine d_t ?_ | refine n_nil ?_ | refine d_nil ?_ | refine n_block ?_ | refine n_skip ?_ | refine n_bon ?_ | refine n_bback ?_ | refine n_back ?_ | refine n_out ?_ | refine n_bout rfl ?_ | refine n_bfar rfl ?_ | refine n_ret ?_ | refine n_exit ?_ | refine n_label ?_ | refine n_scope ?_ | refine n_son ?_ | refine n_sback ?_) | (with_reducible (first | apply n_region | apply d_region); (simp only [JV, JU, JW, Nat.reduceAdd, Nat.zero_add]; exact rfl)) | (with_reducible (first | apply s_op | apply n_guard | apply n_cond | apply d_guard | apply d_op | apply n_fin | apply n_finb); (simp (maxDischargeDepth := 6) only [sy3.1, zY, qG, qP, qQ, qR, qS, qT, rowAt, ↓jg, ↓ji, Nat.reduceAdd, Nat.reduceEqDiff, ne_eq, jG, Nat.reduceLT, if_true, ite_true, Int.reduceLE, Int.reduceLT, Int.reduceEq, Int.reduceNeg, Int.reduceAdd, Nat.reduceSub, if_false, ite_false, fs_4.1, g1, g5, g10, g11, g13, g14, g15, g16, g17, hprg, hltt, hnum, vv, kind_pure, kind_load, kind_fresh, kind_other, jg, ji, undef]; first | exact rfl | exact ⟨rfl, rfl, rfl, rfl⟩); try (with_reducible refine calmK_in ?_; decide +kernel)))
  refine d_do (ActTo bx L o (nx + 7) w sa (now.set k (.ofNat (i + 1))) (all.map (setM (.ofNat k) (.ofNat (i + 1)))) i) 4 (by
    simp (maxDischargeDepth := 6) only [sy3.1, zY, qG, qP, qQ, qR, qS, qT, rowAt, ↓jg, ↓ji, Nat.reduceAdd, Nat.reduceEqDiff, ne_eq, jG, Nat.reduceLT, if_true, ite_true, Int.reduceLE, Int.reduceLT, Int.reduceEq, Int.reduceNeg, Int.reduceAdd, Nat.reduceSub, if_false, ite_false, fs_4.1, g1, g5, g10, g11, g13, g14, g15, g16, g17, hprg, hltt, hnum, vv]
    exact act_set hO M R hR (hnl k hk) hi hk (by omega)) (fun r hr => act_loud hr) (by decide +kernel) ?_
  rintro v1 o2 nx2 l2 ⟨_, _, _, w2, B2, hs2, sa2, c2, sv2, heq, b1, b2, b3, b4, b5, b6, b7, _, S1, S2⟩ cl1
  cases heq
  have M2 := M.act (by omega) b1 b2 b3 b4 b5 b6 b7
  have hnow := M2.now
  have hltn := M2.ltn
  have hkl : k < (now.map (Value.int .i64)).length := by rw [List.length_map, R.ln]; exact hk
  obtain ⟨jsl, hav⟩ := M2.mds.slice
  rw [hav] at g14
  repeat (first | with_reducible (first | refine n_on ?_ | refine n_seq ?_ | refine s_else ?_ | refine n_t ?_ | refine n_gt ?_ | refine d_t ?_ | refine n_nil ?_ | refine d_nil ?_ | refine n_block ?_ | refine n_skip ?_ | refine n_bon ?_ | refine n_bback ?_ | refine n_back ?_ | refine n_out ?_ | refine n_bout rfl ?_ | refine n_bfar rfl ?_ | refine n_ret ?_ | refine n_exit ?_ | refine n_label ?_ | refine n_scope ?_ | refine n_son ?_ | refine n_sback ?_) | (with_reducible (first | apply n_region | apply d_region); (simp only [JV, JU, JW, Nat.reduceAdd, Nat.zero_add]; exact rfl)) | (with_reducible (first | apply s_op | apply n_guard | apply n_cond | apply d_guard | apply d_op | apply n_fin | apply n_finb); (simp (maxDischargeDepth := 6) only [sy3.1, zY, qG, qP, qQ, qR, qS, qT, rowAt, ↓jg, ↓ji, Nat.reduceAdd, Nat.reduceEqDiff, ne_eq, jG, Nat.reduceLT, if_true, ite_true, Int.reduceLE, Int.reduceLT, Int.reduceEq, Int.reduceNeg, Int.reduceAdd, Nat.reduceSub, if_false, ite_false, fs_4.1, g1, g10, g11, g13, g14, g15, g16, g17, hnow, hltn, d0, d5, l5, if_pos hkl, indexAt, Option.isNone_none, Nat.zero_mul, Nat.mul_one, kind_pure, kind_load, kind_fresh, kind_other, jg, ji, undef]; first | exact rfl | exact ⟨rfl, rfl, rfl, rfl⟩); try (with_reducible refine calmK_in ?_; decide +kernel)))
  rw [y_loop_eq]
  refine y_loop (I := fun q e' H => ∃ d r o' nx' lg', all = d ++ r ∧ r.length = q ∧ H = (⟨o', nx', lg'⟩ : AHeap) ∧ LawIn z bx L o' nx' w2 B2 hs2 sa2 c2 sv2 (now.set k (.ofNat (i + 1))) av (d.map (setM (.ofNat k) (.ofNat (i + 1))) ++ r) ups ∧ LEnv L oa len av i e' ∧ e'.get 16 = some (.int .i64 (.ofNat k)) ∧ e'.get 17 = some (.int .i64 (.ofNat (i + 1))) ∧ e'.get 120 = some (.int .i64 (.ofNat all.length)) ∧ e'.get 121 = some (.int .i64 (.ofNat d.length))) ?_ all.length _ _ _ ⟨[], all, _, _, _, rfl, rfl, rfl, M2.nowSet (by omega) ?_ (fun x hx hne => by (repeat (first | rw [qE] | rw [qF _ _ _ _ (by omega)]))), ⟨?_, ?_, ?_, ?_, ?_, ?_, ?_⟩, ?_, ?_, ?_, ?_⟩ (by omega)
  rotate_left
  · rw [qE, List.map_set]
  · simp only [qC, qD, qE, qF, Tr.get_nil, ne_eq, not_false_eq_true, Nat.reduceEqDiff, g1]
  · simp only [qC, qD, qE, qF, Tr.get_nil, ne_eq, not_false_eq_true, Nat.reduceEqDiff]; rw [← M.hB]; exact g5
  · simp only [qC, qD, qE, qF, Tr.get_nil, ne_eq, not_false_eq_true, Nat.reduceEqDiff, g10]
  · simp only [qC, qD, qE, qF, Tr.get_nil, ne_eq, not_false_eq_true, Nat.reduceEqDiff, g11]
  · simp only [qC, qD, qE, qF, Tr.get_nil, ne_eq, not_false_eq_true, Nat.reduceEqDiff, g13]
  · simp only [qC, qD, qE, qF, Tr.get_nil, ne_eq, not_false_eq_true, Nat.reduceEqDiff, g14, hav]
  · simp only [qC, qD, qE, qF, Tr.get_nil, ne_eq, not_false_eq_true, Nat.reduceEqDiff, g15]
  · simp only [qC, qD, qE, qF, Tr.get_nil, ne_eq, not_false_eq_true, Nat.reduceEqDiff, g16]
  · simp only [qC, qD, qE, qF, Tr.get_nil, ne_eq, not_false_eq_true, Nat.reduceEqDiff, g17]
  · simp only [qC, qD, qE, qF, Tr.get_nil, ne_eq, not_false_eq_true, Nat.reduceEqDiff]
  · simp only [qC, qD, qE, qF, Tr.get_nil, ne_eq, not_false_eq_true, Nat.reduceEqDiff]; rfl
  clear M2 hnow hltn g1 g5 g10 g11 g13 g14 g15 g16 g17 M
  rintro q e3 H3 ⟨d, r, o3, nx3, lg3, hdr, hq, rfl, M3, E3, g16, g17, g120, g121⟩
  have hdl : d.length + r.length = all.length := by rw [hdr, List.length_append]
  have g1 := E3.g1; have g5 := E3.g5; have g10 := E3.g10; have g11 := E3.g11; have g13 := E3.g13; have g14 := E3.g14; have g15 := E3.g15
  cases r with
  | nil =>
    have hlt : decide (d.length < all.length) = false := decide_eq_false (by rw [← hdl]; simp)
    repeat (first | with_reducible (first | refine n_on ?_ | refine n_seq ?_ | refine s_else ?_ | refine n_t ?_ | refine n_gt ?_ | refine d_t ?_ | refine n_nil ?_ | refine d_nil ?_ | refine n_block ?_ | refine n_skip ?_ | refine n_bon ?_ | refine n_bback ?_ | refine n_back ?_ | refine n_out ?_ | refine n_bout rfl ?_ | refine n_bfar rfl ?_ | refine n_ret ?_ | refine n_exit ?_ | refine n_label ?_ | refine n_scope ?_ | refine n_son ?_ | refine n_sback ?_) | (with_reducible (first | apply n_region | apply d_region); (simp only [JV, JU, JW, Nat.reduceAdd, Nat.zero_add]; exact rfl)) | (with_reducible (first | apply s_op | apply n_guard | apply n_cond | apply d_guard | apply d_op | apply n_fin | apply n_finb); (simp (maxDischargeDepth := 6) only [sy3.1, zY, qG, qP, qQ, qR, qS, qT, rowAt, ↓jg, ↓ji, Nat.reduceAdd, Nat.reduceEqDiff, ne_eq, jG, Nat.reduceLT, if_true, ite_true, Int.reduceLE, Int.reduceLT, Int.reduceEq, Int.reduceNeg, Int.reduceAdd, Nat.reduceSub, if_false, ite_false, fs_4.1, g120, g121, hlt, kind_pure, kind_load, kind_fresh, kind_other, jg, ji, undef]; first | exact rfl | exact ⟨rfl, rfl, rfl, rfl⟩); try (with_reducible refine calmK_in ?_; decide +kernel)))
    rw [List.append_nil] at M3 hdr
    subst hdr
    refine ⟨_, _, rfl, _, _, _, _, _, _, _, _, _, _, _, _, _, rfl, M3.more (by omega) fun _ _ => rfl, S1, S2, by rw [List.length_map]; omega, fun j hj => ?_, ⟨?_, ?_, ?_, ?_, ?_, ?_, ?_⟩⟩
    · rw [getD_setI _ _ _ _ _ (by rw [R.ln]; exact hk)]
      split
      · simp
      · have := hnl j hj; omega
    all_goals simp only [qC, qD, qE, qF, Tr.get_nil, ne_eq, not_false_eq_true, Nat.reduceEqDiff]; assumption
  | cons m r =>
    simp only [List.length_cons] at hdl hq
    have hlt : decide (d.length < all.length) = true := decide_eq_true (by omega)
    have hdm : (d.map (setM (.ofNat k) (.ofNat (i + 1)))).length = d.length := List.length_map _
    obtain ⟨bj, hav3, hjlt, hjw, hjne, hrow⟩ := M3.mds.at (by simp)
    rw [hav3] at g14
    have hal2 : (d.map (setM (.ofNat k) (.ofNat (i + 1))) ++ m :: r).length = all.length := by rw [List.length_append, hdm, List.length_cons]; omega
    rw [hal2] at g14
    have t2 := md_at _ m r hdm 2 (by decide)
    have t4 := md_at _ m r hdm 4 (by decide)
    have l1 : Nat.blt d.length all.length = true := by rw [Nat.blt_eq]; omega
    have n0 : decide (Int.ofNat d.length < 0) = false := decide_eq_false (by simp only [Int.ofNat_eq_natCast]; omega)
    have n1 : decide (all.length ≤ d.length) = false := decide_eq_false (by omega)
    have hw1 : IntKind.i64.wrap (Int.ofNat d.length + 1) = Int.ofNat (d.length + 1) := by rw [wrap_small _ (by simp only [Int.ofNat_eq_natCast]; omega) (by simp only [Int.ofNat_eq_natCast]; omega)]; rfl
    have hmiss : ∀ e' o' nx' lg', nx3 ≤ nx' → o' = o3 → setM (.ofNat k) (.ofNat (i + 1)) m = m → LEnv L oa len av i e' → e'.get 16 = some (.int .i64 (.ofNat k)) → e'.get 17 = some (.int .i64 (.ofNat (i + 1))) → e'.get 120 = some (.int .i64 (.ofNat all.length)) → e'.get 121 = some (.int .i64 (.ofNat (d.length + 1))) →
        ∃ m, m < q ∧ ∃ d r o'1 nx'1 lg'1, all = d ++ r ∧ r.length = m ∧ (⟨o', nx', lg'⟩ : AHeap) = ⟨o'1, nx'1, lg'1⟩ ∧ LawIn z bx L o'1 nx'1 w2 B2 hs2 sa2 c2 sv2 (now.set k (.ofNat (i + 1))) av (d.map (setM (.ofNat k) (.ofNat (i + 1))) ++ r) ups ∧ LEnv L oa len av i e' ∧ e'.get 16 = some (.int .i64 (.ofNat k)) ∧ e'.get 17 = some (.int .i64 (.ofNat (i + 1))) ∧ e'.get 120 = some (.int .i64 (.ofNat all.length)) ∧ e'.get 121 = some (.int .i64 (.ofNat d.length)) := by
      rintro e' o' nx' lg' h1 rfl h2 h3 h4 h5 h6 h7
      refine ⟨r.length, by omega, d ++ [m], r, _, _, _, by rw [hdr, List.append_assoc]; rfl, rfl, rfl, ?_, h3, h4, h5, h6, by rw [List.length_append]; exact h7⟩
      rw [List.map_append, List.map_cons, List.map_nil, h2, List.append_assoc]
      exact M3.more h1 fun _ _ => rfl
    cases hsl : decide (m.slot = Int.ofNat k) with
    | false =>
      repeat (first | with_reducible (first | refine n_on ?_ | refine n_seq ?_ | refine s_else ?_ | refine n_t ?_ | refine n_gt ?_ | refine d_t ?_ | refine n_nil ?_ | refine d_nil ?_ | refine n_block ?_ | refine n_skip ?_ | refine n_bon ?_ | refine n_bback ?_ | refine n_back ?_ | refine n_out ?_ | refine n_bout rfl ?_ | refine n_bfar rfl ?_ | refine n_ret ?_ | refine n_exit ?_ | refine n_label ?_ | refine n_scope ?_ | refine n_son ?_ | refine n_sback ?_) | (with_reducible (first | apply n_region | apply d_region); (simp only [JV, JU, JW, Nat.reduceAdd, Nat.zero_add]; exact rfl)) | (with_reducible (first | apply s_op | apply n_guard | apply n_cond | apply d_guard | apply d_op | apply n_fin | apply n_finb); (simp (maxDischargeDepth := 6) only [sy3.1, zY, qG, qP, qQ, qR, qS, qT, rowAt, ↓jg, ↓ji, Nat.reduceAdd, Nat.reduceEqDiff, ne_eq, jG, Nat.reduceLT, if_true, ite_true, Int.reduceLE, Int.reduceLT, Int.reduceEq, Int.reduceNeg, Int.reduceAdd, Nat.reduceSub, if_false, ite_false, fs_4.1, g120, g121, hlt, g14, g16, g17, hrow, hjlt, t2, t4, l1, n0, n1, hw1, mdCell, indexAt, Option.isNone_none, Nat.zero_mul, Nat.mul_one, hsl, kind_pure, kind_load, kind_fresh, kind_other, jg, ji, undef]; first | exact rfl | exact ⟨rfl, rfl, rfl, rfl⟩); try (with_reducible refine calmK_in ?_; decide +kernel)))
      refine hmiss _ _ _ _ (by omega) rfl (by unfold setM; rw [if_neg (fun h => of_decide_eq_false hsl h.1)]) ⟨?_, ?_, ?_, ?_, ?_, ?_, ?_⟩ ?_ ?_ ?_ ?_ <;> simp only [qC, qD, qE, qF, Tr.get_nil, ne_eq, not_false_eq_true, Nat.reduceEqDiff] <;> first | exact E3.g1 | exact E3.g5 | exact E3.g10 | exact E3.g11 | exact E3.g13 | exact E3.g14 | exact E3.g15 | exact g16 | exact g17 | exact g120
    | true =>
      cases hold : m.old with
      | true =>
        repeat (first | with_reducible (first | refine n_on ?_ | refine n_seq ?_ | refine s_else ?_ | refine n_t ?_ | refine n_gt ?_ | refine d_t ?_ | refine n_nil ?_ | refine d_nil ?_ | refine n_block ?_ | refine n_skip ?_ | refine n_bon ?_ | refine n_bback ?_ | refine n_back ?_ | refine n_out ?_ | refine n_bout rfl ?_ | refine n_bfar rfl ?_ | refine n_ret ?_ | refine n_exit ?_ | refine n_label ?_ | refine n_scope ?_ | refine n_son ?_ | refine n_sback ?_) | (with_reducible (first | apply n_region | apply d_region); (simp only [JV, JU, JW, Nat.reduceAdd, Nat.zero_add]; exact rfl)) | (with_reducible (first | apply s_op | apply n_guard | apply n_cond | apply d_guard | apply d_op | apply n_fin | apply n_finb); (simp (maxDischargeDepth := 6) only [sy3.1, zY, qG, qP, qQ, qR, qS, qT, rowAt, ↓jg, ↓ji, Nat.reduceAdd, Nat.reduceEqDiff, ne_eq, jG, Nat.reduceLT, if_true, ite_true, Int.reduceLE, Int.reduceLT, Int.reduceEq, Int.reduceNeg, Int.reduceAdd, Nat.reduceSub, if_false, ite_false, fs_4.1, g120, g121, hlt, g14, g16, g17, hrow, hjlt, t2, t4, l1, n0, n1, hw1, mdCell, indexAt, Option.isNone_none, Nat.zero_mul, Nat.mul_one, hsl, hold, kind_pure, kind_load, kind_fresh, kind_other, jg, ji, undef]; first | exact rfl | exact ⟨rfl, rfl, rfl, rfl⟩); try (with_reducible refine calmK_in ?_; decide +kernel)))
        refine hmiss _ _ _ _ (by omega) rfl (by unfold setM; rw [if_neg (fun h => by rw [hold] at h; cases h.2)]) ⟨?_, ?_, ?_, ?_, ?_, ?_, ?_⟩ ?_ ?_ ?_ ?_ <;> simp only [qC, qD, qE, qF, Tr.get_nil, ne_eq, not_false_eq_true, Nat.reduceEqDiff] <;> first | exact E3.g1 | exact E3.g5 | exact E3.g10 | exact E3.g11 | exact E3.g13 | exact E3.g14 | exact E3.g15 | exact g16 | exact g17 | exact g120
      | false =>
        have hset := md_put (d.map (setM (.ofNat k) (.ofNat (i + 1)))) m r hdm 3 (by decide) (.int .i64 (.ofNat (i + 1))) { m with num := .ofNat (i + 1) } rfl
        have hl3 : d.length * 5 + 3 < (mdCells (d.map (setM (.ofNat k) (.ofNat (i + 1))) ++ m :: r)).length := by rw [md_len, hal2]; omega
        repeat (first | with_reducible (first | refine n_on ?_ | refine n_seq ?_ | refine s_else ?_ | refine n_t ?_ | refine n_gt ?_ | refine d_t ?_ | refine n_nil ?_ | refine d_nil ?_ | refine n_block ?_ | refine n_skip ?_ | refine n_bon ?_ | refine n_bback ?_ | refine n_back ?_ | refine n_out ?_ | refine n_bout rfl ?_ | refine n_bfar rfl ?_ | refine n_ret ?_ | refine n_exit ?_ | refine n_label ?_ | refine n_scope ?_ | refine n_son ?_ | refine n_sback ?_) | (with_reducible (first | apply n_region | apply d_region); (simp only [JV, JU, JW, Nat.reduceAdd, Nat.zero_add]; exact rfl)) | (with_reducible (first | apply s_op | apply n_guard | apply n_cond | apply d_guard | apply d_op | apply n_fin | apply n_finb); (simp (maxDischargeDepth := 6) only [sy3.1, zY, qG, qP, qQ, qR, qS, qT, rowAt, ↓jg, ↓ji, Nat.reduceAdd, Nat.reduceEqDiff, ne_eq, jG, Nat.reduceLT, if_true, ite_true, Int.reduceLE, Int.reduceLT, Int.reduceEq, Int.reduceNeg, Int.reduceAdd, Nat.reduceSub, if_false, ite_false, fs_4.1, g120, g121, hlt, g14, g16, g17, hrow, hjlt, t2, t4, l1, n0, n1, hw1, mdCell, indexAt, Option.isNone_none, Nat.zero_mul, Nat.mul_one, hsl, hold, hset, if_pos hl3, kind_pure, kind_load, kind_fresh, kind_other, jg, ji, undef]; first | exact rfl | exact ⟨rfl, rfl, rfl, rfl⟩); try (with_reducible refine calmK_in ?_; decide +kernel)))
        refine ⟨r.length, by omega, d ++ [m], r, _, _, _, by rw [hdr, List.append_assoc]; rfl, rfl, rfl, M3.mdSet (by omega) hjlt hjw hjne (qE _ _ _) ?_ (fun x hx hne => by (repeat (first | rw [qE] | rw [qF _ _ _ _ (by omega)]))) |>.asMd ?_, ⟨?_, ?_, ?_, ?_, ?_, ?_, ?_⟩, ?_, ?_, ?_, ?_⟩
        · rw [hav3]; simp only [List.length_append, List.length_cons]
        · rw [List.map_append, List.map_cons, List.map_nil, List.append_assoc]
          have : setM (.ofNat k) (.ofNat (i + 1)) m = { m with num := .ofNat (i + 1) } := by unfold setM; rw [if_pos ⟨of_decide_eq_true hsl, hold⟩]
          rw [this]; cases m; cases hold; rfl
        all_goals simp only [qC, qD, qE, qF, Tr.get_nil, ne_eq, not_false_eq_true, Nat.reduceEqDiff] <;> first | exact E3.g1 | exact E3.g5 | exact E3.g10 | exact E3.g11 | exact E3.g13 | exact E3.g14 | exact E3.g15 | exact g16 | exact g17 | exact g120 | (rw [List.length_append]; rfl)
end Go.Proofs.Ytckahbnkdiamjaa
