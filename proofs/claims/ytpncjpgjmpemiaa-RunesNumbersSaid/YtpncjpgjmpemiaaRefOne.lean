/- The reference's search for a character at a place, as walked. -/
import Derived.Test.YtpncjpgjmpemiaaRefEncode
namespace Go.Proofs.Ytpncjpgjmpemiaa
open Go.RowKit

theorem byte_bAt (s : ByteArray) (i : Nat) (h : i < s.size) : bAt s.data.toList i = (s[i]'h).toNat := by
  unfold bAt
  have h' : i < s.data.size := h
  rw [List.getD, Array.getElem?_toList, Array.getElem?_eq_getElem h']
  rfl

theorem seg_extract (s : ByteArray) (p k : Nat) (h : p + k ≤ s.size) : (s.extract p (p + k)).data.toList.map UInt8.toNat = seg s.data.toList p k := by
  have h' : p + k ≤ s.data.size := h
  apply List.ext_getElem
  · simp [seg]; omega
  · intro i h1 h2
    have hi : i < k := by simpa [seg] using h2
    have e : (s.extract p (p + k)).data.toList[i]'(by simpa using h1) = s[p + i]'(by omega) := by simp; rfl
    rw [List.getElem_map, e]
    simp only [seg, List.getElem_map, List.getElem_range]
    exact (byte_bAt s (p + i) (by omega)).symm

theorem encU_map (n : Nat) (hn : n < 2147483648) : (encU n).map UInt8.toNat = encN n := by
  have := seg_enc n hn []
  rw [List.append_nil] at this
  rw [← this]
  apply List.ext_getElem
  · simp [seg, encU_len]
  · intro i h1 h2
    have hi : i < (encN n).length := by simpa [seg] using h2
    simp [seg, bAt, List.getD, show i < (encU n).length by rw [encU_len]; exact hi]

/-- the reference's comparison of two texts -/
theorem enc_seg (s : ByteArray) (p k n : Nat) (h : p + k ≤ s.size) (hn : n < 2147483648) : ((encStr n).toList == (s.extract p (p + k)).toList) = decide (encN n = seg s.data.toList p k) := by
  rw [Bool.eq_iff_iff, beq_iff_eq, decide_eq_true_eq, ← seg_extract s p k h, ← encU_map n hn, ← encStr_data, ByteArray.toList_eq, ByteArray.toList_eq]
  constructor
  · intro e; rw [e]
  · intro e
    generalize (encStr n).data.toList = x at e
    generalize (s.extract p (p + k)).data.toList = y at e
    induction x generalizing y with
    | nil => cases y with | nil => rfl | cons b y => simp at e
    | cons a x ih => cases y with
      | nil => simp at e
      | cons b y =>
        simp only [List.map_cons, List.cons.injEq] at e
        rw [UInt8.toNat.inj e.1, ih y e.2]

theorem ret_two {k1 k2 : IntKind} {a b c d : Int} (h : a = b) (h' : c = d) : Ending.returned (.tuple #[.int k1 a, .int k2 c]) = .returned (.tuple #[.int k1 b, .int k2 d]) := by rw [h, h']


theorem one_first (s : List UInt8) (p k : Nat) (h1 : 1 ≤ k) (h4 : k ≤ 4) (h : hitAt s p k = true) (hm : ∀ j, 1 ≤ j → j < k → hitAt s p j = false) : oneAt s p = (numAt s p k, k) := by
  unfold oneAt
  obtain rfl | rfl | rfl | rfl : k = 1 ∨ k = 2 ∨ k = 3 ∨ k = 4 := by omega
  · rw [if_pos h]
  · rw [if_neg (by rw [hm 1 (by omega) (by omega)]; decide), if_pos h]
  · rw [if_neg (by rw [hm 1 (by omega) (by omega)]; decide), if_neg (by rw [hm 2 (by omega) (by omega)]; decide), if_pos h]
  · rw [if_neg (by rw [hm 1 (by omega) (by omega)]; decide), if_neg (by rw [hm 2 (by omega) (by omega)]; decide), if_neg (by rw [hm 3 (by omega) (by omega)]; decide), if_pos h]
theorem one_none (s : List UInt8) (p : Nat) (hm : ∀ j, 1 ≤ j → j < 5 → hitAt s p j = false) : oneAt s p = (65533, 0) := by
  unfold oneAt
  rw [if_neg (by rw [hm 1 (by omega) (by omega)]; decide), if_neg (by rw [hm 2 (by omega) (by omega)]; decide), if_neg (by rw [hm 3 (by omega) (by omega)]; decide), if_neg (by rw [hm 4 (by omega) (by omega)]; decide)]
theorem miss_long (s : List UInt8) (p k : Nat) (h : ¬ p + k ≤ s.length) : hitAt s p k = false := by simp [hitAt, h]
theorem hits_snoc {s : List UInt8} {p k : Nat} (H : ∀ j, 1 ≤ j → j < k → hitAt s p j = false) (h : hitAt s p k = false) : ∀ j, 1 ≤ j → j < k + 1 → hitAt s p j = false :=
  fun j h1 h2 => if e : j = k then e ▸ h else H j h1 (by omega)

set_option maxRecDepth 100000 in
set_option maxHeartbeats 4000000 in
theorem one_any (s : ByteArray) (p : Nat) (w : World) (hs : s.size ≤ 100000) (hp : p < s.size) : Calls Try.prog 23 #[.string s, .int .i64 p] w fun e w' =>
    e = .returned (.tuple #[.int .i32 (oneAt s.data.toList p).1, .int .i64 (oneAt s.data.toList p).2]) ∧ Below w.heap.size w w' := by
  go_enter Try.func23, Try.ntmps23
  go_wp2
  go_loopw [6] (fun kv wr => ∃ k : Nat, 1 ≤ k ∧ k ≤ 5 ∧ kv = .int .i64 k ∧ Hid (∀ j, 1 ≤ j → j < k → hitAt s.data.toList p j = false) ∧ Below w.heap.size w wr) (fun kv _ => 5 - (intOf kv).toNat)
  case atStart => exact ⟨1, by omega, by omega, rfl, fun j h1 h2 => by omega, Below.refl _ _⟩
  case round =>
    obtain ⟨k, hk1, hk5, rfl, H, hbel⟩ := hrel
    have hsz := hbel.size
    by_cases hk : k < 5
    case neg =>
      obtain rfl : k = 5 := by omega
      go_wp2
      go_ret2
      exact ⟨by rw [one_none _ _ H.out]; rfl, hbel⟩
    case pos =>
    by_cases hpk : p + k ≤ s.size
    case neg =>
      have H2 : Hid (oneAt s.data.toList p = (65533, 0)) := one_none _ _ fun j h1 h2 => if e : j < k then H.out j h1 e else miss_long _ _ _ (by simp; omega)
      go_wp2
      go_ret2
      exact ⟨by rw [H2.out]; rfl, hbel⟩
    case pos =>
    have c0 := byte_bAt s p hp
    obtain ⟨b0, hb0⟩ : ∃ b, (s[p]'hp).toNat = b := ⟨_, rfl⟩
    have l0 := bAt_lt s.data.toList p
    rw [hb0] at c0
    rw [c0] at l0
    obtain rfl | rfl | rfl | rfl : k = 1 ∨ k = 2 ∨ k = 3 ∨ k = 4 := by omega
    · -- 1
      obtain ⟨N, eN⟩ : ∃ N, numAt s.data.toList p 1 = N := ⟨_, rfl⟩
      have hnum : (N : Int) = (b0 : Int) := by rw [← eN]; simp only [numAt, c0]
      have hnl := num_lt s.data.toList p 1
      rw [eN] at hnl
      have heq := enc_seg s p 1 N hpk hnl
      obtain ⟨x, hx⟩ : ∃ x : Int, (b0 : Int) = x := ⟨_, rfl⟩
      rw [hx] at hnum
      have htn : x.toNat = N := by omega
      have hx0 : 0 ≤ x := by omega
      have hx1 : x < 2147483648 := by omega
      have HT := Lib.hid htn; clear htn
      have HN := Lib.hid hnum; clear hnum
      clear hnl
      have EN := Lib.hid eN; clear eN
      have HC := Lib.hid c0; clear c0
      cases heb : decide (encN N = seg s.data.toList p 1)
      · rw [heb] at heq
        have HM : Hid (hitAt s.data.toList p 1 = false) := by show _ = _; unfold hitAt; rw [EN.out, heb]; simp
        clear heb
        go_wp2_with fail
        (refine wp_loop_rounds 8 ?_; repeat any_goals (rw [rounds_succ]; go_wp2_with fail))
        refine (refEncode_any _ _ hx0 hx1).mono ?_
        rintro e w1 ⟨rfl, hb1⟩
        have hbel1 : Below w.heap.size w w1 := hbel.trans (hb1.mono (by omega))
        rw [HT.out]
        go_wp2
        go_roundw
        case rel => exact ⟨1 + 1, by omega, by omega, by go_num, hits_snoc H.out HM.out, hbel1⟩
        case measure => simp [intOf]
      rw [heb] at heq
      by_cases hy : x ≤ 1114111
      · by_cases hz : x < 55296
        · have HM : Hid (oneAt s.data.toList p = (N, 1)) := by
            have h : hitAt s.data.toList p 1 = true := by
              have hn := HN.out
              unfold hitAt okR; rw [EN.out, heb]; simp; omega
            show _ = _
            rw [one_first _ _ 1 (by omega) (by omega) h H.out, EN.out]
          clear heb
          go_wp2_with fail
          (refine wp_loop_rounds 8 ?_; repeat any_goals (rw [rounds_succ]; go_wp2_with fail))
          refine (refEncode_any _ _ hx0 hx1).mono ?_
          rintro e w1 ⟨rfl, hb1⟩
          have hbel1 : Below w.heap.size w w1 := hbel.trans (hb1.mono (by omega))
          rw [HT.out]
          go_wp2
          go_ret2
          exact ⟨by rw [HM.out]; exact ret_two HN.out.symm rfl, hbel1⟩
        · exfalso; omega
      · exfalso; omega
    · -- 2
      have c1 := byte_bAt s (p + 1) (by omega)
      obtain ⟨b1, hb1⟩ : ∃ b, (s[p + 1]'(by omega)).toNat = b := ⟨_, rfl⟩
      have l1 := bAt_lt s.data.toList (p + 1)
      rw [hb1] at c1
      rw [c1] at l1
      obtain ⟨N, eN⟩ : ∃ N, numAt s.data.toList p 2 = N := ⟨_, rfl⟩
      have hnum : (N : Int) = (64 * ((b0 : Int) % 32) + (b1 : Int) % 64) := by rw [← eN]; simp only [numAt, c0, c1]; omega
      have hnl := num_lt s.data.toList p 2
      rw [eN] at hnl
      have heq := enc_seg s p 2 N hpk hnl
      obtain ⟨x, hx⟩ : ∃ x : Int, (64 * ((b0 : Int) % 32) + (b1 : Int) % 64) = x := ⟨_, rfl⟩
      rw [hx] at hnum
      have htn : x.toNat = N := by omega
      have hx0 : 0 ≤ x := by omega
      have hx1 : x < 2147483648 := by omega
      have HT := Lib.hid htn; clear htn
      have HN := Lib.hid hnum; clear hnum
      clear hnl
      have EN := Lib.hid eN; clear eN
      have HC := Lib.hid c0; clear c0
      have HC1 := Lib.hid c1; clear c1
      cases heb : decide (encN N = seg s.data.toList p 2)
      · rw [heb] at heq
        have HM : Hid (hitAt s.data.toList p 2 = false) := by show _ = _; unfold hitAt; rw [EN.out, heb]; simp
        clear heb
        go_wp2_with fail
        (refine wp_loop_rounds 8 ?_; repeat any_goals (rw [rounds_succ]; go_wp2_with fail))
        refine (refEncode_any _ _ hx0 hx1).mono ?_
        rintro e w1 ⟨rfl, hb1⟩
        have hbel1 : Below w.heap.size w w1 := hbel.trans (hb1.mono (by omega))
        rw [HT.out]
        go_wp2
        go_roundw
        case rel => exact ⟨2 + 1, by omega, by omega, by go_num, hits_snoc H.out HM.out, hbel1⟩
        case measure => simp [intOf]
      rw [heb] at heq
      by_cases hy : x ≤ 1114111
      · by_cases hz : x < 55296
        · have HM : Hid (oneAt s.data.toList p = (N, 2)) := by
            have h : hitAt s.data.toList p 2 = true := by
              have hn := HN.out
              unfold hitAt okR; rw [EN.out, heb]; simp; omega
            show _ = _
            rw [one_first _ _ 2 (by omega) (by omega) h H.out, EN.out]
          clear heb
          go_wp2_with fail
          (refine wp_loop_rounds 8 ?_; repeat any_goals (rw [rounds_succ]; go_wp2_with fail))
          refine (refEncode_any _ _ hx0 hx1).mono ?_
          rintro e w1 ⟨rfl, hb1⟩
          have hbel1 : Below w.heap.size w w1 := hbel.trans (hb1.mono (by omega))
          rw [HT.out]
          go_wp2
          go_ret2
          exact ⟨by rw [HM.out]; exact ret_two HN.out.symm rfl, hbel1⟩
        · exfalso; omega
      · exfalso; omega
    · -- 3
      have c1 := byte_bAt s (p + 1) (by omega)
      obtain ⟨b1, hb1⟩ : ∃ b, (s[p + 1]'(by omega)).toNat = b := ⟨_, rfl⟩
      have l1 := bAt_lt s.data.toList (p + 1)
      rw [hb1] at c1
      rw [c1] at l1
      have c2 := byte_bAt s (p + 2) (by omega)
      obtain ⟨b2, hb2⟩ : ∃ b, (s[p + 2]'(by omega)).toNat = b := ⟨_, rfl⟩
      have l2 := bAt_lt s.data.toList (p + 2)
      rw [hb2] at c2
      rw [c2] at l2
      obtain ⟨N, eN⟩ : ∃ N, numAt s.data.toList p 3 = N := ⟨_, rfl⟩
      have hnum : (N : Int) = (64 * (64 * ((b0 : Int) % 16) + (b1 : Int) % 64) + (b2 : Int) % 64) := by rw [← eN]; simp only [numAt, c0, c1, c2]; omega
      have hnl := num_lt s.data.toList p 3
      rw [eN] at hnl
      have heq := enc_seg s p 3 N hpk hnl
      obtain ⟨x, hx⟩ : ∃ x : Int, (64 * (64 * ((b0 : Int) % 16) + (b1 : Int) % 64) + (b2 : Int) % 64) = x := ⟨_, rfl⟩
      rw [hx] at hnum
      have htn : x.toNat = N := by omega
      have hx0 : 0 ≤ x := by omega
      have hx1 : x < 2147483648 := by omega
      have HT := Lib.hid htn; clear htn
      have HN := Lib.hid hnum; clear hnum
      clear hnl
      have EN := Lib.hid eN; clear eN
      have HC := Lib.hid c0; clear c0
      have HC1 := Lib.hid c1; clear c1
      have HC2 := Lib.hid c2; clear c2
      cases heb : decide (encN N = seg s.data.toList p 3)
      · rw [heb] at heq
        have HM : Hid (hitAt s.data.toList p 3 = false) := by show _ = _; unfold hitAt; rw [EN.out, heb]; simp
        clear heb
        go_wp2_with fail
        (refine wp_loop_rounds 8 ?_; repeat any_goals (rw [rounds_succ]; go_wp2_with fail))
        refine (refEncode_any _ _ hx0 hx1).mono ?_
        rintro e w1 ⟨rfl, hb1⟩
        have hbel1 : Below w.heap.size w w1 := hbel.trans (hb1.mono (by omega))
        rw [HT.out]
        go_wp2
        go_roundw
        case rel => exact ⟨3 + 1, by omega, by omega, by go_num, hits_snoc H.out HM.out, hbel1⟩
        case measure => simp [intOf]
      rw [heb] at heq
      by_cases hy : x ≤ 1114111
      · by_cases hz : x < 55296
        · have HM : Hid (oneAt s.data.toList p = (N, 3)) := by
            have h : hitAt s.data.toList p 3 = true := by
              have hn := HN.out
              unfold hitAt okR; rw [EN.out, heb]; simp; omega
            show _ = _
            rw [one_first _ _ 3 (by omega) (by omega) h H.out, EN.out]
          clear heb
          go_wp2_with fail
          (refine wp_loop_rounds 8 ?_; repeat any_goals (rw [rounds_succ]; go_wp2_with fail))
          refine (refEncode_any _ _ hx0 hx1).mono ?_
          rintro e w1 ⟨rfl, hb1⟩
          have hbel1 : Below w.heap.size w w1 := hbel.trans (hb1.mono (by omega))
          rw [HT.out]
          go_wp2
          go_ret2
          exact ⟨by rw [HM.out]; exact ret_two HN.out.symm rfl, hbel1⟩
        · by_cases hu : 57343 < x
          · have HM : Hid (oneAt s.data.toList p = (N, 3)) := by
              have h : hitAt s.data.toList p 3 = true := by
                have hn := HN.out
                unfold hitAt okR; rw [EN.out, heb]; simp; omega
              show _ = _
              rw [one_first _ _ 3 (by omega) (by omega) h H.out, EN.out]
            clear heb
            go_wp2_with fail
            (refine wp_loop_rounds 8 ?_; repeat any_goals (rw [rounds_succ]; go_wp2_with fail))
            refine (refEncode_any _ _ hx0 hx1).mono ?_
            rintro e w1 ⟨rfl, hb1⟩
            have hbel1 : Below w.heap.size w w1 := hbel.trans (hb1.mono (by omega))
            rw [HT.out]
            go_wp2
            go_ret2
            exact ⟨by rw [HM.out]; exact ret_two HN.out.symm rfl, hbel1⟩
          · have HM : Hid (hitAt s.data.toList p 3 = false) := by
              have hn := HN.out
              show _ = _
              unfold hitAt okR; rw [EN.out, heb]; simp; omega
            clear heb
            go_wp2_with fail
            (refine wp_loop_rounds 8 ?_; repeat any_goals (rw [rounds_succ]; go_wp2_with fail))
            refine (refEncode_any _ _ hx0 hx1).mono ?_
            rintro e w1 ⟨rfl, hb1⟩
            have hbel1 : Below w.heap.size w w1 := hbel.trans (hb1.mono (by omega))
            rw [HT.out]
            go_wp2
            go_roundw
            case rel => exact ⟨3 + 1, by omega, by omega, by go_num, hits_snoc H.out HM.out, hbel1⟩
            case measure => simp [intOf]
      · exfalso; omega
    · -- 4
      have c1 := byte_bAt s (p + 1) (by omega)
      obtain ⟨b1, hb1⟩ : ∃ b, (s[p + 1]'(by omega)).toNat = b := ⟨_, rfl⟩
      have l1 := bAt_lt s.data.toList (p + 1)
      rw [hb1] at c1
      rw [c1] at l1
      have c2 := byte_bAt s (p + 2) (by omega)
      obtain ⟨b2, hb2⟩ : ∃ b, (s[p + 2]'(by omega)).toNat = b := ⟨_, rfl⟩
      have l2 := bAt_lt s.data.toList (p + 2)
      rw [hb2] at c2
      rw [c2] at l2
      have c3 := byte_bAt s (p + 3) (by omega)
      obtain ⟨b3, hb3⟩ : ∃ b, (s[p + 3]'(by omega)).toNat = b := ⟨_, rfl⟩
      have l3 := bAt_lt s.data.toList (p + 3)
      rw [hb3] at c3
      rw [c3] at l3
      obtain ⟨N, eN⟩ : ∃ N, numAt s.data.toList p 4 = N := ⟨_, rfl⟩
      have hnum : (N : Int) = (64 * (64 * (64 * ((b0 : Int) % 8) + (b1 : Int) % 64) + (b2 : Int) % 64) + (b3 : Int) % 64) := by rw [← eN]; simp only [numAt, c0, c1, c2, c3]; omega
      have hnl := num_lt s.data.toList p 4
      rw [eN] at hnl
      have heq := enc_seg s p 4 N hpk hnl
      obtain ⟨x, hx⟩ : ∃ x : Int, (64 * (64 * (64 * ((b0 : Int) % 8) + (b1 : Int) % 64) + (b2 : Int) % 64) + (b3 : Int) % 64) = x := ⟨_, rfl⟩
      rw [hx] at hnum
      have htn : x.toNat = N := by omega
      have hx0 : 0 ≤ x := by omega
      have hx1 : x < 2147483648 := by omega
      have HT := Lib.hid htn; clear htn
      have HN := Lib.hid hnum; clear hnum
      clear hnl
      have EN := Lib.hid eN; clear eN
      have HC := Lib.hid c0; clear c0
      have HC1 := Lib.hid c1; clear c1
      have HC2 := Lib.hid c2; clear c2
      have HC3 := Lib.hid c3; clear c3
      cases heb : decide (encN N = seg s.data.toList p 4)
      · rw [heb] at heq
        have HM : Hid (hitAt s.data.toList p 4 = false) := by show _ = _; unfold hitAt; rw [EN.out, heb]; simp
        clear heb
        go_wp2_with fail
        (refine wp_loop_rounds 8 ?_; repeat any_goals (rw [rounds_succ]; go_wp2_with fail))
        refine (refEncode_any _ _ hx0 hx1).mono ?_
        rintro e w1 ⟨rfl, hb1⟩
        have hbel1 : Below w.heap.size w w1 := hbel.trans (hb1.mono (by omega))
        rw [HT.out]
        go_wp2
        go_roundw
        case rel => exact ⟨4 + 1, by omega, by omega, by go_num, hits_snoc H.out HM.out, hbel1⟩
        case measure => simp [intOf]
      rw [heb] at heq
      by_cases hy : x ≤ 1114111
      · by_cases hz : x < 55296
        · have HM : Hid (oneAt s.data.toList p = (N, 4)) := by
            have h : hitAt s.data.toList p 4 = true := by
              have hn := HN.out
              unfold hitAt okR; rw [EN.out, heb]; simp; omega
            show _ = _
            rw [one_first _ _ 4 (by omega) (by omega) h H.out, EN.out]
          clear heb
          go_wp2_with fail
          (refine wp_loop_rounds 8 ?_; repeat any_goals (rw [rounds_succ]; go_wp2_with fail))
          refine (refEncode_any _ _ hx0 hx1).mono ?_
          rintro e w1 ⟨rfl, hb1⟩
          have hbel1 : Below w.heap.size w w1 := hbel.trans (hb1.mono (by omega))
          rw [HT.out]
          go_wp2
          go_ret2
          exact ⟨by rw [HM.out]; exact ret_two HN.out.symm rfl, hbel1⟩
        · by_cases hu : 57343 < x
          · have HM : Hid (oneAt s.data.toList p = (N, 4)) := by
              have h : hitAt s.data.toList p 4 = true := by
                have hn := HN.out
                unfold hitAt okR; rw [EN.out, heb]; simp; omega
              show _ = _
              rw [one_first _ _ 4 (by omega) (by omega) h H.out, EN.out]
            clear heb
            go_wp2_with fail
            (refine wp_loop_rounds 8 ?_; repeat any_goals (rw [rounds_succ]; go_wp2_with fail))
            refine (refEncode_any _ _ hx0 hx1).mono ?_
            rintro e w1 ⟨rfl, hb1⟩
            have hbel1 : Below w.heap.size w w1 := hbel.trans (hb1.mono (by omega))
            rw [HT.out]
            go_wp2
            go_ret2
            exact ⟨by rw [HM.out]; exact ret_two HN.out.symm rfl, hbel1⟩
          · have HM : Hid (hitAt s.data.toList p 4 = false) := by
              have hn := HN.out
              show _ = _
              unfold hitAt okR; rw [EN.out, heb]; simp; omega
            clear heb
            go_wp2_with fail
            (refine wp_loop_rounds 8 ?_; repeat any_goals (rw [rounds_succ]; go_wp2_with fail))
            refine (refEncode_any _ _ hx0 hx1).mono ?_
            rintro e w1 ⟨rfl, hb1⟩
            have hbel1 : Below w.heap.size w w1 := hbel.trans (hb1.mono (by omega))
            rw [HT.out]
            go_wp2
            go_roundw
            case rel => exact ⟨4 + 1, by omega, by omega, by go_num, hits_snoc H.out HM.out, hbel1⟩
            case measure => simp [intOf]
      · have HM : Hid (hitAt s.data.toList p 4 = false) := by
          have hn := HN.out
          show _ = _
          unfold hitAt okR; rw [EN.out, heb]; simp; omega
        clear heb
        go_wp2_with fail
        (refine wp_loop_rounds 8 ?_; repeat any_goals (rw [rounds_succ]; go_wp2_with fail))
        refine (refEncode_any _ _ hx0 hx1).mono ?_
        rintro e w1 ⟨rfl, hb1⟩
        have hbel1 : Below w.heap.size w w1 := hbel.trans (hb1.mono (by omega))
        rw [HT.out]
        go_wp2
        go_roundw
        case rel => exact ⟨4 + 1, by omega, by omega, by go_num, hits_snoc H.out HM.out, hbel1⟩
        case measure => simp [intOf]

end Go.Proofs.Ytpncjpgjmpemiaa
