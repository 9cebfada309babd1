/- Frame: a list cut or filled up (frame.Adjust). -/
import Derived.Test.YteomehedmfemiaaRgB
set_option linter.unusedSimpArgs false
set_option linter.unusedVariables false
set_option maxRecDepth 100000
namespace Go.Proofs.Yteomehedmfemiaa
open Go.RowKit
/-- as many values as are wanted -/
def adjL (l : List VV) (want : Int) : List VV := if want < 0 then l else l.take want.toNat ++ List.replicate (want.toNat - l.length) (0, 0)
/-- a list, somewhere -/
def ResV (o : Tr AObj) (nx : Nat) (lg : List Nat) (l : List VV) (r : Value × AHeap) : Prop :=
  ∃ v o' nx', r = (v, ⟨o', nx', lg⟩) ∧ nx ≤ nx' ∧ (∀ x, x < nx → o'.get x = o.get x) ∧ SlV o' nx' v l
theorem sl0_eqlR : binV Try.prog .eql 26 false true (.slice none 0 0) (.slice none 0 0) = some (.bool true) := by kernel_rfl
theorem build_V0 : ∀ fid H, buildSliceV Try.prog 26 0 [] fid H = some (.slice (some ⟨fid, 0, none⟩) 0 1, newRowA fid [] 41 2 H) := fun fid H => by kernel_rfl
theorem rapp0 {j c : Nat} {o : Tr AObj} {nx fid q : Nat} {lg : List Nat} (hj : o.get j = some (.row (vvC []) 41 2 true)) :
    aAppend Try.prog 26 26 (.slice (some ⟨q, 0, none⟩) 0 1) (.slice (some ⟨j, 0, none⟩) 0 c) fid ⟨o, nx, lg⟩ = some (.slice (some ⟨q, 0, none⟩) 0 1, ⟨o, nx, lg⟩) := by
  have hadd : addCells 2 (.slice (some ⟨j, 0, none⟩) 0 c) ⟨o, nx, lg⟩ = some (0, []) := by
    simp only [addCells, qH, hj]; rfl
  rw [appOf_at app_V1, hadd]; rfl
theorem rapp1 {l : List VV} {m : Nat} (hm : l.length = m + 1) (hl : l.length ≤ 1048576) {o : Tr AObj} {nx fid q j c : Nat} {lg : List Nat} (hq : o.get q = some (.row [] 41 2 true)) (hj : o.get j = some (.row (vvC l) 41 2 true)) :
    aAppend Try.prog 26 26 (.slice (some ⟨q, 0, none⟩) 0 1) (.slice (some ⟨j, 0, none⟩) (m + 1) c) fid ⟨o, nx, lg⟩ = some (.slice (some ⟨fid, 0, none⟩) (m + 1) 0, ⟨o.put fid (some (.row (vvC l) 41 2 true)), nx, lg⟩) := by
  have hadd : addCells 2 (.slice (some ⟨j, 0, none⟩) (m + 1) c) ⟨o, nx, lg⟩ = some (m + 1, vvC l) := by
    simp only [addCells, qH, hj]
    rw [show (m + 1) * 2 = l.length * 2 by rw [hm], vvC_cut]; rfl
  have hr : roomOk (0 + (m + 1)) 16 = true := by unfold roomOk; rw [Bool.and_eq_true, Nat.ble_eq, Nat.ble_eq]; omega
  rw [appOf_at app_V1, hadd]
  simp only [qH, hq, Nat.zero_mul, show cut ([] : List Value) 0 0 = some [] from rfl, hr, cond]
  rw [show Nat.beq (m + 1) 0 = false from rfl]
  simp only [show Nat.ble (0 + (m + 1)) 0 = false from by cases h : Nat.ble (0 + (m + 1)) 0; · rfl
                                                          · rw [Nat.ble_eq] at h; omega]
  simp only [newRowA, AHeap.add, List.nil_append, Nat.zero_add]
section
variable {O : Helps} {n : Nat} {o : Tr AObj} {nx : Nat} {lg : List Nat}
set_option maxHeartbeats 8000000 in
theorem rclone_ok (hO : Clear O) {lo : Nat} {v : Value} {l : List VV} (h : AccV o lo nx v l) (hl : l.length ≤ 1048576) : Got (oCall Try.prog [] O (n + 1) 32 [v] ⟨o, nx, lg⟩) (ResV o nx lg l) := by
  rw [y_fn (rs := [.tmp 2]) (hO _ (by decide)) Try.func32 rfl (by kernel_rfl) rfl rfl]
  rcases h with ⟨rfl, rfl⟩ | ⟨j, rfl, hlo, hj, hrow⟩
  · repeat (first | with_reducible (first | refine n_on ?_ | refine n_seq ?_ | refine s_else ?_ | refine n_t ?_ | refine n_gt ?_ | refine d_t ?_ | refine n_nil ?_ | refine d_nil ?_ | refine n_block ?_ | refine n_skip ?_ | refine n_bon ?_ | refine n_bback ?_ | refine n_back ?_ | refine n_out ?_ | refine n_bout rfl ?_ | refine n_bfar rfl ?_ | refine n_ret ?_ | refine n_exit ?_ | refine n_label ?_ | refine n_scope ?_ | refine n_son ?_ | refine n_sback ?_) | (with_reducible (first | apply n_region | apply d_region); (simp only [JV, JU, JW, Nat.reduceAdd, Nat.zero_add]; exact rfl)) | (with_reducible (first | apply s_op | apply n_guard | apply n_cond | apply d_guard | apply d_op | apply n_fin | apply n_finb); (simp (maxDischargeDepth := 6) only [sy3.1, zY, qG, qP, qQ, qR, qS, qT, rowAt, ↓jg, ↓ji, Nat.reduceAdd, Nat.reduceEqDiff, ne_eq, jG, Nat.reduceLT, if_true, ite_true, Int.reduceLE, Int.reduceLT, Int.reduceEq, Int.reduceNeg, Int.reduceAdd, Nat.reduceSub, if_false, ite_false, fs_32.1, sl0_eqlR, kind_pure, kind_load, kind_fresh, kind_other, jg, ji, undef]; first | exact rfl | exact ⟨rfl, rfl, rfl, rfl⟩); try (with_reducible refine calmK_in ?_; decide +kernel)))
    refine quiet_end (by rfl) (by rfl) ?_
    exact ⟨_, _, _, rfl, Nat.le_refl _, fun _ _ => rfl, .inl ⟨rfl, rfl⟩⟩
  · cases hm : l.length with
    | zero =>
      have hl0 : l = [] := List.eq_nil_of_length_eq_zero hm
      subst hl0
      repeat (first | with_reducible (first | refine n_on ?_ | refine n_seq ?_ | refine s_else ?_ | refine n_t ?_ | refine n_gt ?_ | refine d_t ?_ | refine n_nil ?_ | refine d_nil ?_ | refine n_block ?_ | refine n_skip ?_ | refine n_bon ?_ | refine n_bback ?_ | refine n_back ?_ | refine n_out ?_ | refine n_bout rfl ?_ | refine n_bfar rfl ?_ | refine n_ret ?_ | refine n_exit ?_ | refine n_label ?_ | refine n_scope ?_ | refine n_son ?_ | refine n_sback ?_) | (with_reducible (first | apply n_region | apply d_region); (simp only [JV, JU, JW, Nat.reduceAdd, Nat.zero_add]; exact rfl)) | (with_reducible (first | apply s_op | apply n_guard | apply n_cond | apply d_guard | apply d_op | apply n_fin | apply n_finb); (simp (maxDischargeDepth := 6) only [sy3.1, zY, qG, qP, qQ, qR, qS, qT, rowAt, ↓jg, ↓ji, Nat.reduceAdd, Nat.reduceEqDiff, ne_eq, jG, Nat.reduceLT, if_true, ite_true, Int.reduceLE, Int.reduceLT, Int.reduceEq, Int.reduceNeg, Int.reduceAdd, Nat.reduceSub, if_false, ite_false, fs_32.1, hj, hrow, st_buildSliceV, build_V0, rapp0 (j := j), kind_pure, kind_load, kind_fresh, kind_other, jg, ji, undef]; first | exact rfl | exact ⟨rfl, rfl, rfl, rfl⟩); try (with_reducible refine calmK_in ?_; decide +kernel)))
      exact ⟨_, _, _, leave_newR (by rfl) (show Nat.blt (nx + 3) nx = false from blt_new (by omega)), by omega, fun x hx => qF _ _ _ _ (by omega), .inr ⟨nx + 3, 0, 1, _, _, _, _, rfl, by omega, qE _ _ _, rfl⟩⟩
    | succ m =>
      repeat (first | with_reducible (first | refine n_on ?_ | refine n_seq ?_ | refine s_else ?_ | refine n_t ?_ | refine n_gt ?_ | refine d_t ?_ | refine n_nil ?_ | refine d_nil ?_ | refine n_block ?_ | refine n_skip ?_ | refine n_bon ?_ | refine n_bback ?_ | refine n_back ?_ | refine n_out ?_ | refine n_bout rfl ?_ | refine n_bfar rfl ?_ | refine n_ret ?_ | refine n_exit ?_ | refine n_label ?_ | refine n_scope ?_ | refine n_son ?_ | refine n_sback ?_) | (with_reducible (first | apply n_region | apply d_region); (simp only [JV, JU, JW, Nat.reduceAdd, Nat.zero_add]; exact rfl)) | (with_reducible (first | apply s_op | apply n_guard | apply n_cond | apply d_guard | apply d_op | apply n_fin | apply n_finb); (simp (maxDischargeDepth := 6) only [sy3.1, zY, qG, qP, qQ, qR, qS, qT, rowAt, ↓jg, ↓ji, Nat.reduceAdd, Nat.reduceEqDiff, ne_eq, jG, Nat.reduceLT, if_true, ite_true, Int.reduceLE, Int.reduceLT, Int.reduceEq, Int.reduceNeg, Int.reduceAdd, Nat.reduceSub, if_false, ite_false, fs_32.1, hj, hrow, st_buildSliceV, build_V0, rapp1 (j := j) hm hl, kind_pure, kind_load, kind_fresh, kind_other, jg, ji, undef]; first | exact rfl | exact ⟨rfl, rfl, rfl, rfl⟩); try (with_reducible refine calmK_in ?_; decide +kernel)))
      rw [← hm]
      exact ⟨_, _, _, leave_newR (by rfl) (show Nat.blt (nx + 5) nx = false from blt_new (by omega)), by omega, fun x hx => by (repeat (first | rw [qE] | rw [qF _ _ _ _ (by omega)])), .inr ⟨nx + 5, 0, 0, _, _, _, _, rfl, by omega, qE _ _ _, vvC_cut l⟩⟩
end
theorem made_vv (w : Nat) : (madeCells #[Value.int .u8 0, .int .i64 0] (w * 2)).toList = vvC (List.replicate w (0, 0)) := by
  have key : ∀ w : Nat, ((List.range (w * 2)).map fun x => (#[Value.int .u8 0, .int .i64 0] : Array Value)[x % 2]!) = vvC (List.replicate w (0, 0)) := by
    intro w
    induction w with
    | zero => rfl
    | succ w ih =>
      rw [show (w + 1) * 2 = w * 2 + 1 + 1 by omega, List.range_succ, List.range_succ, List.map_append, List.map_append, ih, List.replicate_succ', vvC_snoc, List.append_assoc]
      have e1 : w * 2 % 2 = 0 := by omega
      have e2 : (w * 2 + 1) % 2 = 1 := by omega
      simp only [List.map_cons, List.map_nil, e1, e2]
      rfl
  rw [made_eq, Array.toList_map, Array.toList_range]
  exact key w
theorem make_info : ∃ inf, Try.prog.info? 41 = some inf ∧ inf.zero = some (.agg #[.int .u8 0, .int .i64 0]) ∧ inf.size = 2 ∧ inf.bytes = 16 := by
  have h : (Try.prog.info? 41).map (fun i => (i.zero, i.size, i.bytes)) = some (some (.agg #[.int .u8 0, .int .i64 0]), 2, 16) := by kernel_rfl
  obtain ⟨inf, h1, h2⟩ := Option.map_eq_some_iff.1 h
  simp only [Prod.mk.injEq] at h2
  exact ⟨inf, h1, h2.1, h2.2.1, h2.2.2⟩
theorem make_V {w : Nat} (hw : w ≤ 500) (fid : Nat) (H : AHeap) : aMakeSlice Try.prog 26 (.int .i64 (.ofNat w)) (.int .i64 (.ofNat w)) fid H = some (.slice (some ⟨fid, 0, none⟩) w (w + 1), newRowA fid (vvC (List.replicate w (0, 0))) 41 2 H) := by
  obtain ⟨inf, h1, h2, h3, h4⟩ := make_info
  have hb : (flat2 (.agg #[.int .u8 0, .int .i64 0]) && (Nat.ble w w && (Nat.ble (16 * w) 281474976710656 && Nat.ble w 16777216))) = true := by
    rw [Bool.and_eq_true, Bool.and_eq_true, Bool.and_eq_true, Nat.ble_eq, Nat.ble_eq, Nat.ble_eq]
    exact ⟨rfl, by omega, by omega, by omega⟩
  simp only [aMakeSlice, Try.underlying26, h1, h2, h3, h4, hb, cond]
  rw [show (Value.agg #[Value.int .u8 0, .int .i64 0]).cells = #[Value.int .u8 0, .int .i64 0] from rfl, made_vv]
theorem store_many {i : Nat} {t : TypeId} {s : Nat} : ∀ (vs pre l : List Value) (H : AHeap), vs ≠ [] → vs.all oneV = true → vs.length ≤ l.length → ∃ H', aStoreCells i t s H (pre ++ l) pre.length vs = some H' ∧ (∀ x, H'.get x = if x = i then some (.row (pre ++ (vs ++ l.drop vs.length)) t s true) else H.get x) ∧ H'.next = H.next ∧ ∃ m, H'.log = m ∧ (∀ b, i ≥ b → H.log.all (fun j => Nat.ble b j) = true → m.all (fun j => Nat.ble b j) = true)
  | [], _, _, _, hn, _, _ => absurd rfl hn
  | v :: vs, pre, [], _, _, _, h => by simp at h
  | v :: vs, pre, c :: l, H, _, ha, hl => by
    rw [List.all_cons, Bool.and_eq_true] at ha
    have hlt : Nat.blt pre.length (pre ++ c :: l).length = true := by rw [Nat.blt_eq]; simp
    have hset : (pre ++ c :: l).set pre.length v = (pre ++ [v]) ++ l := by rw [List.set_append_right _ _ (Nat.le_refl _), Nat.sub_self]; simp
    have hlog : ∀ b, i ≥ b → H.log.all (fun j => Nat.ble b j) = true → (noteId i H.log).all (fun j => Nat.ble b j) = true := fun b hb h => by rw [js, h, Bool.and_true]; exact Nat.ble_eq.mpr hb
    by_cases hvs : vs = []
    · subst hvs
      refine ⟨H.upd i (some (.row (pre ++ [v] ++ l) t s true)), by simp only [aStoreCells, hlt, ha.1, Bool.and_self, cond, hset], fun x => ?_, rfl, _, rfl, hlog⟩
      rw [AHeap.get_upd]; simp
    · obtain ⟨H', h1, h2, h3, m, h4, h5⟩ := store_many vs (pre ++ [v]) l (H.upd i (some (.row (pre ++ [v] ++ l) t s true))) hvs ha.2 (by simpa using hl)
      rw [List.length_append, List.length_singleton] at h1
      refine ⟨H', by simp only [aStoreCells, hlt, ha.1, Bool.and_self, cond, hset]; exact h1, fun x => ?_, h3, m, h4, fun b hb h => h5 b hb (hlog b hb h)⟩
      rw [h2, AHeap.get_upd]
      by_cases hx : x = i
      · rw [if_pos hx, if_pos hx]; simp
      · rw [if_neg hx, if_neg hx, if_neg hx]
theorem vvC_one (l : List VV) : (vvC l).all oneV = true := by
  induction l with
  | nil => rfl
  | cons v l ih => rw [show vvC (v :: l) = [.int .u8 v.1, .int .i64 v.2] ++ vvC l from rfl, List.all_append, ih]; rfl
theorem vvC_app (a b : List VV) : vvC (a ++ b) = vvC a ++ vvC b := by simp only [vvC, List.flatMap_append]
theorem vvC_drop (l : List VV) (k : Nat) : (vvC l).drop (k * 2) = vvC (l.drop k) := by
  by_cases h : k ≤ l.length
  · have e : l = l.take k ++ l.drop k := (List.take_append_drop k l).symm
    conv => lhs; rw [e, vvC_app]
    rw [List.drop_append_of_le_length (by rw [vvC_len, List.length_take, Nat.min_eq_left h]; exact Nat.le_refl _), List.drop_eq_nil_of_le (by rw [vvC_len, List.length_take, Nat.min_eq_left h]; exact Nat.le_refl _)]
    rfl
  · rw [List.drop_eq_nil_of_le (by rw [vvC_len]; omega), List.drop_eq_nil_of_le (by omega)]; rfl
theorem vvC_take (l : List VV) {k : Nat} (h : k ≤ l.length) : (vvC l).take (k * 2) = vvC (l.take k) := by
  have e : l = l.take k ++ l.drop k := (List.take_append_drop k l).symm
  conv => lhs; rw [e, vvC_app]
  rw [List.take_append_of_le_length (by rw [vvC_len, List.length_take, Nat.min_eq_left h]; exact Nat.le_refl _), List.take_of_length_le (by rw [vvC_len, List.length_take, Nat.min_eq_left h]; exact Nat.le_refl _)]
/-- copy into a new row of noughts -/
theorem copy_V {lo j w : Nat} {l : List VV} {v : Value} {H : AHeap} {b : Nat} (hw : w ≤ 500) (hj : H.get j = some (.row (vvC (List.replicate w (0, 0))) 41 2 true)) (hv : AccV H.objs lo b v l) (hb : b ≤ j) (hlg : H.log.all (fun i => Nat.ble b i) = true) :
    ∃ H' m, aCopy Try.prog 26 (.slice (some ⟨j, 0, none⟩) w (w + 1)) v H = some (m, H') ∧ (∀ x, H'.get x = if x = j then some (.row (vvC (l.take w ++ List.replicate (w - l.length) (0, 0))) 41 2 true) else H.get x) ∧ H'.next = H.next ∧ H'.log.all (fun i => Nat.ble b i) = true := by
  obtain ⟨inf, h1, h2, h3, h4⟩ := make_info
  have hsame : l.length = 0 ∨ w = 0 → ∀ x, H.get x = if x = j then some (.row (vvC (l.take w ++ List.replicate (w - l.length) (0, 0))) 41 2 true) else H.get x := fun h x => by
    by_cases hx : x = j
    · rw [if_pos hx, hx, hj]
      rcases h with h | h
      · rw [List.eq_nil_of_length_eq_zero h]; simp
      · subst h; simp
    · rw [if_neg hx]
  rcases hv with ⟨rfl, rfl⟩ | ⟨q, rfl, hq1, hq2, hq3⟩
  · exact ⟨H, .int .i64 0, by simp only [aCopy, Try.underlying26, h1], hsame (.inl rfl), rfl, hlg⟩
  · by_cases hm : Nat.min l.length w = 0
    · refine ⟨H, .int .i64 0, ?_, hsame (by simp only [Nat.min_def] at hm; split at hm <;> omega), rfl, hlg⟩
      simp only [aCopy, Try.underlying26, h1, hm, Nat.beq_refl, cond]
    · have hmb : Nat.beq (Nat.min l.length w) 0 = false := by
        cases h : Nat.beq (Nat.min l.length w) 0 with
        | false => rfl
        | true => exact absurd (Nat.eq_of_beq_eq_true h) hm
      have hml : Nat.min l.length w ≤ l.length := Nat.min_le_left ..
      have hmw : Nat.min l.length w ≤ w := Nat.min_le_right ..
      have hcut : cut (vvC l) 0 (Nat.min l.length w * 2) = some (vvC (l.take (Nat.min l.length w))) := by
        unfold cut
        rw [List.drop_zero, vvC_take l hml]
        have : Nat.beq (vvC (l.take (Nat.min l.length w))).length (Nat.min l.length w * 2) = true := by rw [vvC_len, List.length_take, Nat.min_eq_left hml]; exact Nat.beq_refl _
        simp only [this, cond]
      have hlen : (vvC (l.take (Nat.min l.length w))).length = Nat.min l.length w * 2 := by rw [vvC_len, List.length_take, Nat.min_eq_left hml]
      obtain ⟨H', g1, g2, g3, m, g4, g5⟩ := store_many (i := j) (t := 41) (s := 2) (vvC (l.take (Nat.min l.length w))) [] (vvC (List.replicate w (0, 0))) H (fun h => by rw [h] at hlen; simp at hlen; omega) (vvC_one _) (by rw [hlen, vvC_len, List.length_replicate]; omega)
      have hget : H.get q = some (.row (vvC l) 41 2 true) := hq3
      refine ⟨H', .int .i64 (Nat.min l.length w), ?_, fun x => ?_, g3, by rw [g4]; exact g5 b (by omega) hlg⟩
      · simp only [aCopy, Try.underlying26, h1, hmb, cond, hj, hget, h3, hcut]
        rw [show aStoreCells j 41 2 H (vvC (List.replicate w (0, 0))) 0 (vvC (l.take (Nat.min l.length w))) = some H' from g1]; rfl
      · rw [g2]
        by_cases hx : x = j
        · rw [if_pos hx, if_pos hx, List.nil_append, hlen, vvC_drop, ← vvC_app, List.drop_replicate]
          have e1 : l.take (Nat.min l.length w) = l.take w := by
            rcases Nat.le_total l.length w with h | h
            · rw [show Nat.min l.length w = l.length from Nat.min_eq_left h, List.take_length, List.take_of_length_le h]
            · rw [show Nat.min l.length w = w from Nat.min_eq_right h]
          have e2 : w - Nat.min l.length w = w - l.length := by
            rcases Nat.le_total l.length w with h | h
            · rw [show Nat.min l.length w = l.length from Nat.min_eq_left h]
            · rw [show Nat.min l.length w = w from Nat.min_eq_right h]; omega
          rw [e1, e2]
        · rw [if_neg hx, if_neg hx]
end Go.Proofs.Yteomehedmfemiaa
