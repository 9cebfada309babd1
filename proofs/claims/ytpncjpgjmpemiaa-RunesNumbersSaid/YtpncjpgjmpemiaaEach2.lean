/- The reference's Each, and Valid of both, as walked. -/
import Derived.Test.YtpncjpgjmpemiaaEach
namespace Go.Proofs.Ytpncjpgjmpemiaa
open Go.RowKit

set_option maxHeartbeats 2000000 in
theorem refEach_any (s : ByteArray) (w : World) (hs : s.size ≤ 100000) : Calls Try.prog 10 #[.string s] w (EachSays (eachL s.data.toList) w) := by
  have hlen : s.data.toList.length = s.size := by simp
  go_enter Try.func10, Try.ntmps10
  go_wp2_with fail
  go_loopw [4, 5, 6] (fun ov av iv wr => ∃ (done : List (Nat × Nat)) (f p : Nat), iv = .int .i64 p ∧ Hid (eachL s.data.toList = done ++ eachF s.data.toList f p) ∧ s.size ≤ p + f ∧ p ≤ s.size + 4 ∧ done.length + f = s.size ∧
      wr.ownsRow w.heap.size 21 1 ov done.length ((runesOf done).map (Value.int .i32)) ∧ wr.ownsRow w.heap.size 3 1 av done.length ((placesOf done).map (Value.int .i64)) ∧ RowsApart ov av ∧ Below w.heap.size w wr)
    (fun _ _ iv wr => s.size - (intOf iv).toNat)
  case atStart =>
    exact ⟨[], s.size, 0, rfl, by show _ = _; simp [eachL, hlen], by omega, by omega, by simp, World.ownsRow_nil _ _ _ _, World.ownsRow_nil _ _ _ _, fun g h => by simp [Value.ownBlock] at h, Below.refl _ _⟩
  case round =>
    obtain ⟨done, f, p, rfl, HE, hpf, hps, hdf, ho, ha, hap, hbel⟩ := hrel
    have hsz := hbel.size
    by_cases hlt : p < s.size
    · obtain ⟨f, rfl⟩ : ∃ j, f = j + 1 := ⟨f - 1, by omega⟩
      have hcall := fun W => one_any s p W hs hlt
      obtain ⟨r, hr⟩ : ∃ r, (oneAt s.data.toList p).1 = r := ⟨_, rfl⟩
      obtain ⟨k, hk⟩ : ∃ k, (oneAt s.data.toList p).2 = k := ⟨_, rfl⟩
      have hk4 : k ≤ 4 := by
        by_cases hz : (oneAt s.data.toList p).2 = 0
        · omega
        · obtain ⟨j, _, h4, _, he⟩ := one_hit _ _ hz
          rw [he] at hk; simp at hk; omega
      rw [hr, hk] at hcall
      have HR : Hid (eachL s.data.toList = (done ++ [(r, p)]) ++ eachF s.data.toList f (p + max 1 k)) := by
        show _ = _
        rw [HE.out, eachF_step _ _ _ (by omega), hr, hk, List.append_assoc]
      have HC := Lib.hid hcall
      clear HE hr hk hcall
      go_wp2_with fail
      refine (HC.out _).mono ?_
      rintro e wc ⟨rfl, hbc⟩
      have ho' := owns_below ho hbc (Nat.le_refl _)
      have ha' := owns_below ha hbc (Nat.le_refl _)
      have hbel' : Below w.heap.size w wc := hbel.trans (hbc.mono hsz)
      have hszc := hbel'.size
      clear ho ha hbel hsz hbc
      by_cases hk0 : k = 0
      all_goals
        first | (subst hk0) | (have hk1 : 1 ≤ k := by omega)
        go_wp2_with (first
          | (at_builtin; refine wpList_append_new Try.elemI32 rfl (by decide) wc rfl _ _ rfl rfl ho' 1 [.int .i32 r] rfl rfl (by decide) (by simp [Value.oneCell']) (by omega) (by omega) hszc (Nat.le_refl _) hbel' ?_; intro v1 w1 ho1 hb1 hg1 hm1; have ha1 := owns_kept ha' hg1 hap.symm; have hap1 := hap.symm.moved ha' hm1; have hs1 : w.heap.size ≤ w1.heap.size := hb1.size)
          | (at_builtin; refine wpList_append_new Try.elemI64 rfl (by decide) w1 rfl _ _ rfl rfl ha1 1 [.int .i64 p] rfl rfl (by decide) (by simp [Value.oneCell']) (by omega) (by omega) hs1 (Nat.le_refl _) hb1 ?_; intro v2 w2 ha2 hb2 hg2 hm2; have ho2 := owns_kept ho1 hg2 hap1.symm; have hap2 := hap1.symm.moved ho1 hm2))
        go_roundw
        case rel => first | exact ⟨done ++ [(r, p)], f, p + 1, by go_num, HR, by omega, by omega, by simp; omega, by rw [runesOf_snoc, List.length_append]; exact ho2, by rw [placesOf_snoc, List.length_append]; exact ha2, hap2, hb2⟩ | exact ⟨done ++ [(r, p)], f, p + k, by go_num, by rw [show max 1 k = k from by omega] at HR; exact HR, by omega, by omega, by simp; omega, by rw [runesOf_snoc, List.length_append]; exact ho2, by rw [placesOf_snoc, List.length_append]; exact ha2, hap2, hb2⟩
        case measure => simp [intOf]; omega
    · have HE' : Hid (eachL s.data.toList = done) := by
        show _ = _
        rw [HE.out, eachF_end _ _ _ (by omega), List.append_nil]
      clear HE
      go_wp2
      go_ret2
      refine ⟨_, _, rfl, ?_, ?_, hbel⟩
      · rw [HE'.out]; exact ho
      · rw [HE'.out]; exact ha

theorem validF_step (s : List UInt8) (f p : Nat) (h : p < s.length) : validF s (f + 1) p = (decide ((oneAt s p).2 ≠ 0) && validF s f (p + (oneAt s p).2)) := by
  simp only [validF]; rw [if_pos h]

set_option maxHeartbeats 2000000 in
theorem refValid_any (s : ByteArray) (w : World) (hs : s.size ≤ 100000) : Calls Try.prog 14 #[.string s] w fun e w' => e = .returned (.bool (validL s.data.toList)) ∧ Below w.heap.size w w' := by
  have hlen : s.data.toList.length = s.size := by simp
  go_enter Try.func14, Try.ntmps14
  go_wp2_with fail
  go_loopw [3] (fun iv wr => ∃ (f p : Nat), iv = .int .i64 p ∧ Hid (validL s.data.toList = validF s.data.toList f p) ∧ s.size ≤ p + f ∧ p ≤ s.size + 4 ∧ Below w.heap.size w wr)
    (fun iv wr => s.size - (intOf iv).toNat)
  case atStart => exact ⟨s.size, 0, rfl, by show _ = _; simp [validL, hlen], by omega, by omega, Below.refl _ _⟩
  case round =>
    obtain ⟨f, p, rfl, HE, hpf, hps, hbel⟩ := hrel
    have hsz := hbel.size
    by_cases hlt : p < s.size
    · obtain ⟨f, rfl⟩ : ∃ j, f = j + 1 := ⟨f - 1, by omega⟩
      have hcall := fun W => one_any s p W hs hlt
      obtain ⟨r, hr⟩ : ∃ r, (oneAt s.data.toList p).1 = r := ⟨_, rfl⟩
      obtain ⟨k, hk⟩ : ∃ k, (oneAt s.data.toList p).2 = k := ⟨_, rfl⟩
      have hk4 : k ≤ 4 := by
        by_cases hz : (oneAt s.data.toList p).2 = 0
        · omega
        · obtain ⟨j, _, h4, _, he⟩ := one_hit _ _ hz
          rw [he] at hk; simp at hk; omega
      rw [hr, hk] at hcall
      have HR : Hid (validL s.data.toList = (decide (k ≠ 0) && validF s.data.toList f (p + k))) := by
        show _ = _
        rw [HE.out, validF_step _ _ _ (by omega), hk]
      have HC := Lib.hid hcall
      clear HE hr hk hcall
      go_wp2_with fail
      refine (HC.out _).mono ?_
      rintro e wc ⟨rfl, hbc⟩
      have hbel' : Below w.heap.size w wc := hbel.trans (hbc.mono hsz)
      clear hbel hsz hbc
      by_cases hk0 : k = 0
      · subst hk0
        go_wp2
        go_ret
        exact ⟨ret_bool (by rw [HR.out]; rfl), hbel'⟩
      · have hk1 : 1 ≤ k := by omega
        go_wp2
        go_roundw
        case rel => exact ⟨f, p + k, by go_num, by show _ = _; rw [HR.out, decide_eq_true hk0, Bool.true_and], by omega, by omega, hbel'⟩
        case measure => simp [intOf]; omega
    · have HE' : Hid (validL s.data.toList = true) := by
        show _ = _
        rw [HE.out, validF_end _ _ _ (by omega)]
      clear HE
      go_wp2
      go_ret
      exact ⟨ret_bool HE'.out.symm, hbel⟩

theorem ext3 (s : ByteArray) (p : Nat) : (s.extract p (p + 3)).toList = (s.data.toList.drop p).take 3 := by
  rw [ByteArray.toList_eq, ByteArray.data_extract, Array.toList_extract, List.extract_eq_take_drop]
  congr 1; omega

set_option maxHeartbeats 2000000 in
theorem valid_any (s : ByteArray) (w : World) (hs : s.size ≤ 100000) : Calls Try.prog 13 #[.string s] w fun e w' => e = .returned (.bool (validL s.data.toList)) ∧ Below w.heap.size w w' := by
  have hlen : s.data.toList.length = s.size := by simp
  go_enter Try.func13, Try.ntmps13
  go_wp2_with fail
  go_loopw [3] (fun iv wr => ∃ (f p : Nat), Hid (validL s.data.toList = validF s.data.toList f p) ∧ s.size ≤ p + f ∧ p ≤ s.size + 4 ∧ wr.heap[w.heap.size]? = some (.stringIter s p) ∧ Below w.heap.size w wr)
    (fun iv wr => s.size - wr.iterPos w.heap.size)
  case atStart => exact ⟨s.size, 0, by show _ = _; simp [validL, hlen], by omega, by omega, World.iter_heap _ _ _, (Below.refl _ _).alloc (Nat.le_refl _) _⟩
  case round =>
    obtain ⟨f, p, HE, hpf, hps, hit, hbel⟩ := hrel
    have hsz := hbel.size
    by_cases hlt : p < s.size
    · obtain ⟨f, rfl⟩ : ∃ j, f = j + 1 := ⟨f - 1, by omega⟩
      have hdec := decode_fst s p hlt
      have hn := fun ty => Lib.run_next_any_at (P := Try.prog) wr w.heap.size s p ty hit hlt
      rw [hdec.1, hdec.2] at hn
      have hne := one_ne_iff s.data.toList p
      have herr := one_err s.data.toList p
      rw [hlen, ← ext3] at hne
      have hR := validF_step s.data.toList f p (by omega)
      obtain ⟨r, hr⟩ : ∃ r, (oneAt s.data.toList p).1 = r := ⟨_, rfl⟩
      obtain ⟨k, hk⟩ : ∃ k, (oneAt s.data.toList p).2 = k := ⟨_, rfl⟩
      have hk4 : k ≤ 4 := by
        by_cases hz : (oneAt s.data.toList p).2 = 0
        · omega
        · obtain ⟨j, _, h4, _, he⟩ := one_hit _ _ hz
          rw [he] at hk; simp at hk; omega
      have herr' : k = 0 → r = 65533 := fun h0 => by rw [← hr, herr (hk.trans h0)]
      rw [hr, hk] at hne
      rw [hk] at hR hn
      rw [hr] at hn
      have HR : Hid (validL s.data.toList = (decide (k ≠ 0) && validF s.data.toList f (p + k))) := HE.out.trans hR
      have HP : Hid (wr.iterPos w.heap.size = p) := by show _ = _; simp [World.iterPos, hit]
      clear HE hr hk hdec herr hR
      have hit' := Lib.iterAt_heap wr w.heap.size s p (p + max 1 k) hit
      have hbel' := below_iter (k := w.heap.size) (s := s) (pos := p + max 1 k) hbel (Nat.le_refl _) hsz
      obtain ⟨wi, hwi⟩ : ∃ wi, wr.iterAt w.heap.size s (p + max 1 k) = wi := ⟨_, rfl⟩
      simp only [hwi] at hn hit' hbel'
      clear hwi hit hbel
      by_cases hrr : r = 65533
      · subst hrr
        have hne' := hne rfl
        clear hne herr'
        by_cases h3 : s.size < p + 3
        · have HK : Hid (k = 0) := hne'.2 (.inl h3)
          clear hne' hk4
          go_wp2
          go_ret
          exact ⟨ret_bool (by rw [HR.out, HK.out]; rfl), hbel'⟩
        · cases hb : (s.extract p (p + 3)).toList == [239, 191, 189]
          · have HK : Hid (k = 0) := hne'.2 (.inr (by simpa using hb))
            clear hne' hk4
            go_wp2
            go_ret
            exact ⟨ret_bool (by rw [HR.out, HK.out]; rfl), hbel'⟩
          · have hk0 : k ≠ 0 := fun h0 => by
              rcases hne'.1 h0 with h | h
              · exact h3 h
              · exact h (by simpa using hb)
            have hm : max 1 k = k := by omega
            rw [hm] at hit'
            have HM := Lib.hid hm; clear hm hne'
            go_wp2
            go_roundw
            case rel => exact ⟨f, p + k, by show _ = _; rw [HR.out, decide_eq_true hk0, Bool.true_and], by omega, by omega, hit', hbel'⟩
            case measure => rw [HP.out, show wi.iterPos w.heap.size = p + k from by simp [World.iterPos, hit']]; omega
      · have hk0 : k ≠ 0 := fun h0 => hrr (herr' h0)
        have hrb : ((r : Int) == 65533) = false := beq_eq_false_iff_ne.2 (by omega)
        have hm : max 1 k = k := by omega
        rw [hm] at hit'
        have HM := Lib.hid hm; clear hm hne herr' hrr
        go_wp2
        go_roundw
        case rel => exact ⟨f, p + k, by show _ = _; rw [HR.out, decide_eq_true hk0, Bool.true_and], by omega, by omega, hit', hbel'⟩
        case measure => rw [HP.out, show wi.iterPos w.heap.size = p + k from by simp [World.iterPos, hit']]; omega
    · have hn := fun ty => Lib.run_next_end_at (P := Try.prog) wr w.heap.size s p ty hit hlt
      have HE' : Hid (validL s.data.toList = true) := by
        show _ = _
        rw [HE.out, validF_end _ _ _ (by omega)]
      clear HE
      go_wp2
      go_ret
      exact ⟨ret_bool HE'.out.symm, hbel⟩
end Go.Proofs.Ytpncjpgjmpemiaa
