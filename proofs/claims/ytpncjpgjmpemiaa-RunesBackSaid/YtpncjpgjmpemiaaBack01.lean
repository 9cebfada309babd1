/- RunesBack, as walked. -/
import Derived.Test.YtpncjpgjmpemiaaLaw01
namespace Go.Proofs.Ytpncjpgjmpemiaa
open Go.RowKit

theorem runesOf_at (l : List (Nat × Nat)) (i : Nat) (x : Nat × Nat) (h : l[i]? = some x) : (runesOf l)[i]? = some (x.1 : Int) := by simp [runesOf, h]
theorem placesOf_at (l : List (Nat × Nat)) (i : Nat) (x : Nat × Nat) (h : l[i]? = some x) : (placesOf l)[i]? = some (x.2 : Int) := by simp [placesOf, h]
theorem append_list (a b : ByteArray) : (a ++ b).data.toList = a.data.toList ++ b.data.toList := by simp

set_option maxRecDepth 100000 in
set_option maxHeartbeats 4000000 in
theorem runesBack_bad (n : Int) (a b : ByteArray) (w : World) (ha : a.size ≤ 3000) (hb : b.size ≤ 3000) (h : n < 0 ∨ 2147483648 ≤ n) : Calls Try.prog 4 #[.int .i64 n, .string a, .string b] w fun e w' => e = .returned (.bool true) ∧ Below w.heap.size w w' := by
  have h1 := fun W => encode_bad n W h
  rcases h with h | h
  all_goals
    go_enter Try.func4, Try.ntmps4
    go_wp2_with (first | (go_at_call 7; refine (h1 _).mono ?_; rintro e w' ⟨rfl, rfl⟩) | (go_at_call 6; refine (awake1_any _).mono ?_; rintro e w1 ⟨rfl, b1⟩))
    go_ret
    exact ⟨rfl, b1⟩

set_option maxRecDepth 100000 in
set_option maxHeartbeats 4000000 in
theorem runesBack_long (n : Int) (a b : ByteArray) (w : World) (h : 3000 < a.size ∨ 3000 < b.size) : Calls Try.prog 4 #[.int .i64 n, .string a, .string b] w fun e w' => e = .returned (.bool true) ∧ Below w.heap.size w w' := by
  by_cases ha : 3000 < a.size
  · go_enter Try.func4, Try.ntmps4
    go_wp2_with (go_at_call 6; refine (awake1_any _).mono ?_; rintro e w1 ⟨rfl, b1⟩)
    go_ret
    exact ⟨rfl, b1⟩
  · have hb : 3000 < b.size := by omega
    go_enter Try.func4, Try.ntmps4
    go_wp2_with (go_at_call 6; refine (awake1_any _).mono ?_; rintro e w1 ⟨rfl, b1⟩)
    go_ret
    exact ⟨rfl, b1⟩

set_option maxRecDepth 100000 in
set_option maxHeartbeats 4000000 in
theorem runesBack_none (n : Int) (a b : ByteArray) (w : World) (ha : a.size ≤ 3000) (hb : b.size ≤ 3000) (h0 : 0 ≤ n) (h1 : n < 2147483648) (h : 1114111 < n ∨ (55296 ≤ n ∧ n ≤ 57343)) : Calls Try.prog 4 #[.int .i64 n, .string a, .string b] w fun e w' => e = .returned (.bool true) ∧ Below w.heap.size w w' := by
  have hc := fun W => encode_any n W h0 h1
  have hv := fun W => valid_any (encStr n.toNat) W (by rw [encStr_size]; have := (encN_len n.toNat).2; omega)
  rw [encStr_data, valid_bad n.toNat (by omega) (by simp [okR]; omega)] at hv
  have s1 : 1 ≤ (encStr n.toNat).size := by rw [encStr_size]; exact (encN_len _).1
  have s6 : (encStr n.toNat).size ≤ 6 := by rw [encStr_size]; exact (encN_len _).2
  generalize encStr n.toNat = S at hc hv s1 s6
  rcases h with h | ⟨h, h'⟩
  · go_enter Try.func4, Try.ntmps4
    go_wp2_with fail
    refine (hc _).mono ?_
    rintro e w1 ⟨rfl, b1⟩
    go_wp2_with fail
    refine (hv _).mono ?_
    rintro e w2 ⟨rfl, b2⟩
    go_wp2_with fail
    refine (awake1_any _).mono ?_
    rintro e w3 ⟨rfl, b3⟩
    go_wp2_with fail
    go_ret
    have s1 := b1.size
    have s2 := b2.size
    exact ⟨rfl, (b1.trans (b2.mono (by omega))).trans (b3.mono (by omega))⟩
  · have hx : ¬ 1114111 < n := by omega
    go_enter Try.func4, Try.ntmps4
    go_wp2_with fail
    refine (hc _).mono ?_
    rintro e w1 ⟨rfl, b1⟩
    go_wp2_with fail
    refine (hv _).mono ?_
    rintro e w2 ⟨rfl, b2⟩
    go_wp2_with fail
    refine (awake1_any _).mono ?_
    rintro e w3 ⟨rfl, b3⟩
    go_wp2_with fail
    go_ret
    have s1 := b1.size
    have s2 := b2.size
    exact ⟨rfl, (b1.trans (b2.mono (by omega))).trans (b3.mono (by omega))⟩

set_option maxRecDepth 100000 in
set_option maxHeartbeats 8000000 in
theorem runesBack_inv (n : Int) (a b : ByteArray) (w : World) (ha : a.size ≤ 3000) (hb : b.size ≤ 3000) (h0 : 0 ≤ n) (h1 : n ≤ 1114111) (hok : n < 55296 ∨ 57343 < n) (hinv : validL a.data.toList = false) :
    Calls Try.prog 4 #[.int .i64 n, .string a, .string b] w fun e w' => e = .returned (.bool true) ∧ Below w.heap.size w w' := by
  have hok' : okR n.toNat = true := by simp [okR]; omega
  have hc := fun W => encode_any n W h0 (by omega)
  have hv := fun W => valid_any (encStr n.toNat) W (by rw [encStr_size]; have := (encN_len n.toNat).2; omega)
  have he := fun W => each_any (encStr n.toNat) W (by rw [encStr_size]; have := (encN_len n.toNat).2; omega)
  have hva := fun W => valid_any a W (by omega)
  rw [encStr_data, (each_enc n.toNat hok').2] at hv
  rw [encStr_data, (each_enc n.toNat hok').1] at he
  have s1 : 1 ≤ (encStr n.toNat).size := by rw [encStr_size]; exact (encN_len _).1
  have s6 : (encStr n.toNat).size ≤ 6 := by rw [encStr_size]; exact (encN_len _).2
  have hd := encStr_data n.toNat
  rw [hinv] at hva
  have hvs := fun W => valid_any (a ++ encStr n.toNat) W (by rw [ByteArray.size_append]; omega)
  rw [append_list, hd, valid_mid_none a.data.toList n.toNat (by omega) hinv] at hvs
  clear hd
  generalize encStr n.toNat = S at hc hv he s1 s6 hvs
  have t1 : decide (n < 0) = false := decide_eq_false (by omega)
  have t2 : decide (2147483647 < n) = false := decide_eq_false (by omega)
  have t3 : decide (1114111 < n) = false := decide_eq_false (by omega)
  rcases hok with hok | hok
  all_goals
    go_enter Try.func4, Try.ntmps4
    go_wp2_with fail
    refine (hc _).mono ?_
    rintro e w1 ⟨rfl, b1⟩
    go_wp2_with fail
    refine (he _).mono ?_
    rintro e w2 ⟨v1, v2, rfl, ho, ha', b2⟩
    obtain ⟨r1, r2⟩ := each_read (by simp) ho ha'
    obtain ⟨g1, o1, c1, rfl, hg1, hc1⟩ := reads_some r1 (by simp [runesOf])
    obtain ⟨g2, o2, c2, rfl, hg2, hc2⟩ := reads_some r2 (by simp [placesOf])
    have x1 := hc1 0 _ (runesOf_at _ 0 (n.toNat, 0) rfl)
    have x2 := hc2 0 _ (placesOf_at _ 0 (n.toNat, 0) rfl)
    simp only [runesOf_len, placesOf_len, List.length_cons, List.length_nil, Nat.zero_add, Nat.add_zero] at x1 x2 ⊢
    have en : ((n.toNat : Nat) : Int) = n := by omega
    rw [en] at x1
    have z0 : ((0 : Nat) : Int) = 0 := rfl
    rw [z0] at x2
    clear en z0 ho ha' r1 r2 hc1 hc2
    have q1 := b1.size
    have q2 := b2.size
    have bb2 : Below w.heap.size w w2 := b1.trans (b2.mono (by omega))
    clear b1 b2
    go_wp2_with fail
    refine (hv _).mono ?_
    rintro e w3 ⟨rfl, b3⟩
    have bb3 : Below w.heap.size w w3 := bb2.trans (b3.mono (by omega))
    have q3 := b3.size
    clear bb2 b3
    go_wp2_with fail
    refine (hva _).mono ?_
    rintro e w4 ⟨rfl, b4⟩
    have bb4 : Below w.heap.size w w4 := bb3.trans (b4.mono (by omega))
    have q4 := b4.size
    clear bb3 b4
    go_wp2_with fail
    refine (hvs _).mono ?_
    rintro e w5 ⟨rfl, b5⟩
    go_wp2_with fail
    refine (awake1_any _).mono ?_
    rintro e w6 ⟨rfl, b6⟩
    go_wp2_with fail
    go_ret
    have q5 := b5.size
    exact ⟨rfl, (bb4.trans (b5.mono (by omega))).trans (b6.mono (by omega))⟩

set_option maxRecDepth 100000 in
set_option maxHeartbeats 8000000 in
theorem runesBack_ok0 (n : Int) (a b : ByteArray) (w : World) (ha : a.size ≤ 3000) (hb : b.size ≤ 3000) (h0 : 0 ≤ n) (h1 : n ≤ 1114111) (hok : n < 55296 ∨ 57343 < n) (hinv : validL a.data.toList = true) (hL : eachL a.data.toList = []) :
    Calls Try.prog 4 #[.int .i64 n, .string a, .string b] w fun e w' => e = .returned (.bool true) ∧ Below w.heap.size w w' := by
  have hok' : okR n.toNat = true := by simp [okR]; omega
  have hc := fun W => encode_any n W h0 (by omega)
  have hv := fun W => valid_any (encStr n.toNat) W (by rw [encStr_size]; have := (encN_len n.toNat).2; omega)
  have he := fun W => each_any (encStr n.toNat) W (by rw [encStr_size]; have := (encN_len n.toNat).2; omega)
  have hva := fun W => valid_any a W (by omega)
  rw [encStr_data, (each_enc n.toNat hok').2] at hv
  rw [encStr_data, (each_enc n.toNat hok').1] at he
  have s1 : 1 ≤ (encStr n.toNat).size := by rw [encStr_size]; exact (encN_len _).1
  have s6 : (encStr n.toNat).size ≤ 6 := by rw [encStr_size]; exact (encN_len _).2
  have hd := encStr_data n.toNat
  rw [hinv] at hva
  have hea := fun W => each_any a W (by omega)
  have hew := fun W => each_any (a ++ encStr n.toNat ++ b) W (by rw [ByteArray.size_append, ByteArray.size_append]; omega)
  obtain ⟨r, hM⟩ := each_mid a.data.toList b.data.toList n.toNat hok' hinv
  rw [append_list, append_list, hd, List.append_assoc, hM] at hew
  rw [show a.data.toList.length = a.size from by simp] at hew
  have hll := eachF_len a.data.toList a.data.toList.length 0
  have hml := eachF_len (a.data.toList ++ (encU n.toNat ++ b.data.toList)) (a.data.toList ++ (encU n.toNat ++ b.data.toList)).length 0
  have hmz : (a.data.toList ++ (encU n.toNat ++ b.data.toList)).length ≤ 10000 := by
    have e1 : a.data.toList.length = a.size := by simp
    have e2 : b.data.toList.length = b.size := by simp
    have e3 := encU_len n.toNat
    have e4 := (encN_len n.toNat).2
    rw [List.length_append, List.length_append]; omega
  rw [show eachF a.data.toList a.data.toList.length 0 = eachL a.data.toList from rfl] at hll
  rw [show eachF (a.data.toList ++ (encU n.toNat ++ b.data.toList)) (a.data.toList ++ (encU n.toNat ++ b.data.toList)).length 0 = eachL (a.data.toList ++ (encU n.toNat ++ b.data.toList)) from rfl, hM] at hml
  rw [show a.data.toList.length = a.size from by simp] at hll hml
  have hml2 : (eachL a.data.toList ++ (n.toNat, a.size) :: r).length ≤ 10000 := by omega
  clear hd hM hmz hml
  generalize encStr n.toNat = S at hc hv he s1 s6 hew
  have sz1 : (a ++ S).size = a.size + S.size := ByteArray.size_append
  generalize eachL a.data.toList = L at hea hew hll hL hml2
  obtain ⟨ll, hlen⟩ : ∃ ll, L.length = ll := ⟨_, rfl⟩
  obtain ⟨M, hM⟩ : ∃ M, L ++ (n.toNat, a.size) :: r = M := ⟨_, rfl⟩
  have hMk : ∀ i, i < ll → M[i]? = L[i]? := fun i hi => by rw [← hM, List.getElem?_append_left (by omega)]
  have hMn : M[ll]? = some (n.toNat, a.size) := by rw [← hM, List.getElem?_append_right (by omega), hlen]; simp
  rw [hM] at hew hml2
  obtain ⟨mm, hmm⟩ : ∃ mm, M.length = mm := ⟨_, rfl⟩
  have hlm : ll < mm := by rw [← hmm, ← hM, ← hlen]; simp
  rw [hmm] at hml2
  have HM : Hid ((∀ i, i < ll → M[i]? = L[i]?) ∧ M[ll]? = some (n.toNat, a.size) ∧ L.length = ll ∧ M.length = mm) := ⟨hMk, hMn, hlen, hmm⟩
  have HE := Lib.hid hea
  have HW := Lib.hid hew
  have HS := Lib.hid sz1
  clear hMk hMn hM hmm hea hew hll sz1
  have hl0 : ll = 0 := by rw [← hlen, hL]; rfl
  subst hl0
  clear hL hlen
  have t1 : decide (n < 0) = false := decide_eq_false (by omega)
  have t2 : decide (2147483647 < n) = false := decide_eq_false (by omega)
  have t3 : decide (1114111 < n) = false := decide_eq_false (by omega)
  rcases hok with hok | hok
  all_goals
    go_enter Try.func4, Try.ntmps4
    go_wp2_with fail
    refine (hc _).mono ?_
    rintro e w1 ⟨rfl, b1⟩
    go_wp2_with fail
    refine (he _).mono ?_
    rintro e w2 ⟨v1, v2, rfl, ho, ha', b2⟩
    obtain ⟨r1, r2⟩ := each_read (by simp) ho ha'
    obtain ⟨g1, o1, c1, rfl, hg1, hc1⟩ := reads_some r1 (by simp [runesOf])
    obtain ⟨g2, o2, c2, rfl, hg2, hc2⟩ := reads_some r2 (by simp [placesOf])
    have x1 := hc1 0 _ (runesOf_at _ 0 (n.toNat, 0) rfl)
    have x2 := hc2 0 _ (placesOf_at _ 0 (n.toNat, 0) rfl)
    simp only [runesOf_len, placesOf_len, List.length_cons, List.length_nil, Nat.zero_add, Nat.add_zero] at x1 x2 ⊢
    have en : ((n.toNat : Nat) : Int) = n := by omega
    rw [en] at x1
    have z0 : ((0 : Nat) : Int) = 0 := rfl
    rw [z0] at x2
    clear en z0 ho ha' r1 r2 hc1 hc2
    have q1 := b1.size
    have q2 := b2.size
    have bb2 : Below w.heap.size w w2 := b1.trans (b2.mono (by omega))
    clear b1 b2
    go_wp2_with fail
    refine (hv _).mono ?_
    rintro e w3 ⟨rfl, b3⟩
    have bb3 : Below w.heap.size w w3 := bb2.trans (b3.mono (by omega))
    have q3 := b3.size
    clear bb2 b3
    go_wp2_with fail
    refine (hva _).mono ?_
    rintro e w4 ⟨rfl, b4⟩
    have bb4 : Below w.heap.size w w4 := bb3.trans (b4.mono (by omega))
    have q4 := b4.size
    clear bb3 b4
    go_wp2_with fail
    refine (HE.out _).mono ?_
    rintro e w5 ⟨v3, v4, rfl, ho3, ho4, b5⟩
    obtain ⟨r3, r4⟩ := each_read (by rw [HM.out.2.2.1]; omega) ho3 ho4
    have hS := HS.out
    go_wp2_with fail
    clear hS
    refine (HW.out _).mono ?_
    rintro e w6 ⟨v5, v6, rfl, ho5, ho6, b6⟩
    obtain ⟨r5, r6⟩ := each_read (by rw [HM.out.2.2.2]; omega) ho5 ho6
    have r3' := r3.later b6 (Nat.le_refl _)
    have r4' := r4.later b6 (Nat.le_refl _)
    obtain ⟨g5, o5, c5, rfl, hg5, hc5⟩ := reads_some r5 (by rw [runesOf_len, HM.out.2.2.2]; omega)
    obtain ⟨g6, o6, c6, rfl, hg6, hc6⟩ := reads_some r6 (by rw [placesOf_len, HM.out.2.2.2]; omega)
    have q5 := b5.size
    have bb6 : Below w.heap.size w w6 := (bb4.trans (b5.mono (by omega))).trans (b6.mono (by omega))
    have x5 := hc5 _ _ (runesOf_at _ _ _ HM.out.2.1)
    have x6 := hc6 _ _ (placesOf_at _ _ _ HM.out.2.1)
    rw [show ((n.toNat : Nat) : Int) = n from by omega] at x5
    simp only [runesOf_len, placesOf_len, HM.out.2.2.2, Nat.add_zero] at x5 x6 ⊢
    clear ho3 ho4 ho5 ho6 r3 r4 r5 r6 b5 b6 bb4
    obtain ⟨ao, c3, rfl⟩ := reads_empty r3' (by rw [runesOf_len]; exact HM.out.2.2.1)
    obtain ⟨bo, c4, rfl⟩ := reads_empty r4' (by rw [placesOf_len]; exact HM.out.2.2.1)
    clear hc5 hc6 r3' r4'
    go_wp2_with fail
    (refine wp_loop_rounds 2 ?_; repeat any_goals (rw [rounds_succ]; go_wp2_with fail))
    refine (awake1_any _).mono ?_
    rintro e w7 ⟨rfl, b7⟩
    go_wp2_with fail
    go_ret
    have q6 := bb6.size
    exact ⟨rfl, bb6.trans (b7.mono (by omega))⟩

end Go.Proofs.Ytpncjpgjmpemiaa
