/- LibGoes: behind the first loop, to the end. -/
import Derived.Test.YtdfadipfhcikdaaGreatDoorGoLaw7
import Derived.Test.YtdfadipfhcikdaaGreatDoorGoSame
namespace Go.Proofs.YtdfadipfhcikdaaGreatDoor
open Go.RowKit
set_option linter.unusedSimpArgs false
set_option linter.unusedVariables false
set_option maxRecDepth 100000

theorem tw_lt {α : Type} {p : α → Bool} : ∀ {l : List α} {r : Nat}, r < (l.takeWhile p).length → ∃ x, l[r]? = some x ∧ p x = true
  | [], r, h => by simp at h
  | a :: l, r, h => by
    rw [List.takeWhile_cons] at h
    by_cases ha : p a = true
    · rw [if_pos ha] at h
      cases r with
      | zero => exact ⟨a, rfl, ha⟩
      | succ r => exact tw_lt (l := l) (by simpa using h)
    · rw [if_neg ha] at h; simp at h
theorem tw_stop {α : Type} {p : α → Bool} : ∀ {l : List α} {x : α}, l[(l.takeWhile p).length]? = some x → p x = false
  | [], x, h => by simp at h
  | a :: l, x, h => by
    rw [List.takeWhile_cons] at h
    by_cases ha : p a = true
    · rw [if_pos ha] at h
      exact tw_stop (l := l) (by simpa using h)
    · rw [if_neg ha] at h
      simp only [List.length_nil, List.getElem?_cons_zero, Option.some.injEq] at h
      subst h; simpa using ha
theorem mem_kOf {bs : List Bool} {m r : Nat} : r ∈ kOf bs m ↔ r < m ∧ bs[r]? = some false := by
  unfold kOf
  rw [List.mem_filter, List.mem_range]; simp
theorem rOf_in {bs : List Bool} {m r : Nat} (h : r < rOf bs m) : r ∈ kOf bs m := by
  obtain ⟨x, h1, h2⟩ := tw_lt h
  rw [List.getElem?_take] at h1
  split at h1
  · rename_i h3
    refine mem_kOf.2 ⟨h3, ?_⟩
    rw [h1]; simpa using h2
  · cases h1
theorem rOf_out (bs : List Bool) (m : Nat) : rOf bs m ∉ kOf bs m := fun h => by
  obtain ⟨h1, h2⟩ := mem_kOf.1 h
  have h3 : (bs.take m)[rOf bs m]? = some false := by rw [List.getElem?_take, if_pos h1]; exact h2
  have := tw_stop (p := fun b : Bool => !b) h3
  cases this
theorem rOf_le (bs : List Bool) (m : Nat) : rOf bs m ≤ m := by
  have h1 : rOf bs m ≤ (bs.take m).length := (List.takeWhile_prefix (fun b : Bool => !b)).length_le
  rw [List.length_take] at h1; omega
section
variable {O : Helps} {n : Nat}
set_option maxHeartbeats 64000000 in
theorem go_tail (hO : Clear O) (hA : ∀ (o : Tr AObj) (nx : Nat) (lg : List Nat), oCall Tryz.prog [] O 9999 11 [] ⟨o, nx, lg⟩ = some (.bool true, ⟨o, nx, lg⟩)) {bs : List Bool} {bi b5 R : Nat} {ks : List Nat} {e : Tr Value} {H : AHeap} {res : List Operand} {e0 : AHeap} (hR : R ∉ ks) (hR2 : ∀ r, r < R → r ∈ ks) (hl : R ≤ 20) (hk : ks.length ≤ 20) (h : StpSt bs bi b5 ks R 0 e H) :
    Got (rCode Tryz.prog (oCall Tryz.prog [] O 9999) 9999 (goR4 Tryz.f3) e H) fun s => s.1 = .back ∧ s.2.1.get 2 = some (.bool true) := by
  have h3 : ∀ {e : Tr Value} {H : AHeap}, StpSt bs bi b5 ks R 0 e H → e.get 18 = some (.int .i64 (.ofNat 0)) → Got (rCode Tryz.prog (oCall Tryz.prog [] O 9999) 9999 (.loop (goL4 Tryz.f3)) e H) _ := fun h h18 => go_loop3 hO hR hR2 hl h h18
  show Got (rCode _ _ _ (Code.seq (Code.seq _ (Code.block _ (Code.loop (goL4 Tryz.f3)))) _) _ _) _
  generalize goL4 Tryz.f3 = T at h3 ⊢
  obtain ⟨o, nx, lg⟩ := H
  repeat (first | with_reducible (first | refine n_on ?_ | refine n_seq ?_ | refine s_else ?_ | refine n_t ?_ | refine n_gt ?_ | refine d_t ?_ | refine n_nil ?_ | refine d_nil ?_ | refine n_block ?_ | refine n_skip ?_ | refine n_bon ?_ | refine n_bback ?_ | refine n_back ?_ | refine n_out ?_ | refine n_bout rfl ?_ | refine n_bfar rfl ?_ | refine n_ret ?_ | refine n_exit ?_ | refine n_label ?_ | refine n_scope ?_ | refine n_son ?_ | refine n_sback ?_) | (with_reducible (first | apply n_region | apply d_region); (simp only [JV, JU, JW, Nat.reduceAdd, Nat.zero_add]; exact rfl)) | (with_reducible (first | apply s_op | apply n_guard | apply n_cond | apply d_guard | apply d_op | apply n_fin | apply n_finb); (simp (maxDischargeDepth := 6) only [sy3.1, zY, qG, qP, qQ, qR, qS, qT, rowAt, ↓jg, ↓ji, Nat.reduceAdd, Nat.reduceEqDiff, ne_eq, jG, Nat.reduceLT, if_true, ite_true, Int.reduceLE, Int.reduceLT, Int.reduceEq, Int.reduceNeg, Int.reduceAdd, Nat.reduceSub, if_false, ite_false, fs_3.1, kind_pure, kind_load, kind_fresh, kind_other, jg, ji, undef]; first | exact rfl | exact ⟨rfl, rfl, rfl, rfl⟩); try (with_reducible refine calmK_in ?_; decide +kernel)))
  refine (h3 (h.put (by omega) ?_ ?_ ?_ ?_ ?_ ?_ ?_ ?_) ?_).mono ?_
  rotate_left 9
  · rintro s ⟨e1, H1, rfl, o1, nx1, lg1, w, B, a7, b, q, b13, a12, rfl, L, E, g16, g12, g13, g17⟩
    have g7 := E.g7; have g8 := E.g8
    have s1 : SlG o1 nx1 a12 (wantL ks) := by
      rcases L.a with ⟨h1, h2⟩ | ⟨j, h1, h2, _, _, h5⟩
      · exact .inl ⟨h1, by rw [List.length_eq_zero_iff.1 h2]; rfl⟩
      · rw [List.take_length] at h5; exact .inr ⟨j, h1, h2, h5⟩
    have s2 : SlG o1 nx1 a7 (wantL ks) := by
      rcases L.M.want with ⟨h1, h2⟩ | ⟨j, h1, _, _, h2, _, h5⟩
      · exact .inl ⟨h1, by rw [h2]; rfl⟩
      · exact .inr ⟨j, h1, h2, h5⟩
    have hs := fun (q : Nat) (lg : List Nat) => sameG_ok (n := 8999) (lg := lg) (nx := nx1 + q) hO (s1.imp id fun ⟨j, a, b, c⟩ => ⟨j, a, by omega, c⟩) (s2.imp id fun ⟨j, a, b, c⟩ => ⟨j, a, by omega, c⟩) (by rw [wantL_len]; omega)
    rw [wantL_len] at hs
    repeat (first | with_reducible (first | refine n_on ?_ | refine n_seq ?_ | refine s_else ?_ | refine n_t ?_ | refine n_gt ?_ | refine d_t ?_ | refine n_nil ?_ | refine d_nil ?_ | refine n_block ?_ | refine n_skip ?_ | refine n_bon ?_ | refine n_bback ?_ | refine n_back ?_ | refine n_out ?_ | refine n_bout rfl ?_ | refine n_bfar rfl ?_ | refine n_ret ?_ | refine n_exit ?_ | refine n_label ?_ | refine n_scope ?_ | refine n_son ?_ | refine n_sback ?_) | (with_reducible (first | apply n_region | apply d_region); (simp only [JV, JU, JW, Nat.reduceAdd, Nat.zero_add]; exact rfl)) | (with_reducible (first | apply s_op | apply n_guard | apply n_cond | apply d_guard | apply d_op | apply n_fin | apply n_finb); (simp (maxDischargeDepth := 6) only [sy3.1, zY, qG, qP, qQ, qR, qS, qT, rowAt, ↓jg, ↓ji, Nat.reduceAdd, Nat.reduceEqDiff, ne_eq, jG, Nat.reduceLT, if_true, ite_true, Int.reduceLE, Int.reduceLT, Int.reduceEq, Int.reduceNeg, Int.reduceAdd, Nat.reduceSub, if_false, ite_false, fs_3.1, g7, g8, g12, g17, hs, hA, eq_self, kind_pure, kind_load, kind_fresh, kind_other, jg, ji, undef]; first | exact rfl | exact ⟨rfl, rfl, rfl, rfl⟩); try (with_reducible refine calmK_in ?_; decide +kernel)))
    exact ⟨rfl, by simp only [qC, qD, qE, qF, Tr.get_nil, ne_eq, not_false_eq_true, Nat.reduceEqDiff]⟩
  all_goals simp only [qC, qD, qE, qF, Tr.get_nil, ne_eq, not_false_eq_true, Nat.reduceEqDiff]
  rfl
set_option maxHeartbeats 64000000 in
theorem go_two (hO : Clear O) {bs : List Bool} {bi b5 rw : Nat} {ks : List Nat} {e : Tr Value} {H : AHeap} {Q : St → Prop} (hnd : ks.Nodup) (hl : ks.length ≤ 20) (h : MidSt bs bi b5 ks rw 0 (0, 0) e H)
    (hK : ∀ v e' H', MidSt bs bi b5 ks rw ks.length v e' H' → Got (rCode Tryz.prog (oCall Tryz.prog [] O 9999) 9999 (goR3 Tryz.f3) e' H') Q) :
    Got (rCode Tryz.prog (oCall Tryz.prog [] O 9999) 9999 (goR2 Tryz.f3) e H) Q := by
  have h2 : ∀ {e : Tr Value} {H : AHeap}, MidSt bs bi b5 ks rw 0 (0, 0) e H → e.get 14 = some (.int .i64 (.ofNat 0)) → Got (rCode Tryz.prog (oCall Tryz.prog [] O 9999) 9999 (.loop (goL2 Tryz.f3)) e H) _ := fun h h14 => go_loop2 hO hnd hl h h14
  show Got (rCode _ _ _ (Code.seq (Code.seq _ (Code.block _ (Code.loop (goL2 Tryz.f3)))) (goR3 Tryz.f3)) _ _) _
  generalize goL2 Tryz.f3 = T at h2 ⊢
  generalize goR3 Tryz.f3 = T3 at hK ⊢
  obtain ⟨o, nx, lg⟩ := H
  repeat (first | with_reducible (first | refine n_on ?_ | refine n_seq ?_ | refine s_else ?_ | refine n_t ?_ | refine n_gt ?_ | refine d_t ?_ | refine n_nil ?_ | refine d_nil ?_ | refine n_block ?_ | refine n_skip ?_ | refine n_bon ?_ | refine n_bback ?_ | refine n_back ?_ | refine n_out ?_ | refine n_bout rfl ?_ | refine n_bfar rfl ?_ | refine n_ret ?_ | refine n_exit ?_ | refine n_label ?_ | refine n_scope ?_ | refine n_son ?_ | refine n_sback ?_) | (with_reducible (first | apply n_region | apply d_region); (simp only [JV, JU, JW, Nat.reduceAdd, Nat.zero_add]; exact rfl)) | (with_reducible (first | apply s_op | apply n_guard | apply n_cond | apply d_guard | apply d_op | apply n_fin | apply n_finb); (simp (maxDischargeDepth := 6) only [sy3.1, zY, qG, qP, qQ, qR, qS, qT, rowAt, ↓jg, ↓ji, Nat.reduceAdd, Nat.reduceEqDiff, ne_eq, jG, Nat.reduceLT, if_true, ite_true, Int.reduceLE, Int.reduceLT, Int.reduceEq, Int.reduceNeg, Int.reduceAdd, Nat.reduceSub, if_false, ite_false, fs_3.1, kind_pure, kind_load, kind_fresh, kind_other, jg, ji, undef]; first | exact rfl | exact ⟨rfl, rfl, rfl, rfl⟩); try (with_reducible refine calmK_in ?_; decide +kernel)))
  refine (h2 (h.put (by omega) ?_ ?_ ?_ ?_ ?_ ?_ ?_) ?_).mono ?_
  rotate_left 8
  · rintro s ⟨e1, H1, rfl, M⟩
    exact hK _ _ _ M
  all_goals simp only [qC, qD, qE, qF, Tr.get_nil, ne_eq, not_false_eq_true, Nat.reduceEqDiff]
  rfl
end
end Go.Proofs.YtdfadipfhcikdaaGreatDoor
