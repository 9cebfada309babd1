/- Texts: Quote: the walk. -/
import Derived.Test.YtpncjpgjmpemiaaDoorTextKit
namespace Go.Proofs.YtpncjpgjmpemiaaDoor
open Go.RowKit
set_option linter.unusedSimpArgs false
set_option linter.unusedVariables false

theorem byte_at (s : ByteArray) (k : Nat) (h : k < s.size) : s.data.toList[k]? = some (s[k]'h) := by
  rw [Array.getElem?_toList]
  exact Array.getElem?_eq_getElem h
theorem q_step (l : List UInt8) (k : Nat) (c : UInt8) (h : l[k]? = some c) (x : List Value) (hx : x = Lib.byteCells (escB c)) : Lib.byteCells (34 :: (l.take k).flatMap escB) ++ x = Lib.byteCells (34 :: (l.take (k + 1)).flatMap escB) := by
  rw [hx, ← Lib.byteCells_append, take_flat escB l k c h]; rfl
theorem q_len (l : List UInt8) (k : Nat) (hk : l.length ≤ 1000000000) : (Lib.byteCells (34 :: (l.take k).flatMap escB)).length ≤ 4000000001 := by
  have := flat_len (l.take k)
  have h2 : (l.take k).length ≤ l.length := by rw [List.length_take]; omega
  rw [Lib.byteCells_length, List.length_cons]; omega
theorem esc_str (F : List UInt8) : ((⟨#[92]⟩ : ByteArray) ++ ((⟨#[48, 48]⟩ : ByteArray) ++ ⟨F.toArray⟩).extract (2 + F.length - 3) (2 + F.length)) = ⟨(92 :: ([48, 48] ++ F).drop (([48, 48] ++ F).length - 3)).toArray⟩ := by
  apply ByteArray.ext
  apply Array.ext'
  rw [ByteArray.data_append, ByteArray.data_extract, ByteArray.data_append, Array.toList_append, Array.toList_extract, Array.toList_append]
  show [92] ++ _ = 92 :: _
  rw [List.singleton_append]
  congr 1
  have e : ([48, 48] ++ F).length = 2 + F.length := by simp; omega
  show List.extract ([48, 48] ++ F) _ _ = _
  rw [List.extract_eq_take_drop, e, List.take_of_length_le]
  rw [List.length_drop, e]; omega
theorem cells_str (l : List UInt8) : Lib.strCells ⟨l.toArray⟩ = Lib.byteCells l := by
  unfold Lib.strCells Lib.byteCells; simp
set_option maxHeartbeats 4000000 in
set_option maxRecDepth 100000 in
theorem quote_any (s : ByteArray) (w : World) (hT : TabW w) (hs : s.size ≤ 1000000000) :
    Calls Tryd.prog 15 #[.string s] w fun e w' => e = .returned (str (quoteL s.data.toList)) ∧ Below w.heap.size w w' := by
  have hlen : s.data.toList.length = s.size := by simp
  have HT : Hid (TabW w) := hT
  have HL : ∀ k, Hid ((Lib.byteCells (34 :: (s.data.toList.take k).flatMap escB)).length ≤ 4000000001) := fun k => q_len _ k (by omega)
  clear hT
  go_enter Tryd.func15, Tryd.ntmps15
  go_wp2_with (go_at_call 37; refine (wb w.heap.size w.heap.size [] 34 _ (Lib.IsBuilderF.of (Lib.fresh_isBuilder TB TU w)) (by simp) (by simp)).mono ?_; rintro e w1 ⟨rfl, h1, hb1⟩)
  have hb1' : Below w.heap.size w w1 := ((Below.refl w.heap.size w).alloc (Nat.le_refl _) _).trans hb1
  have H1 : Hid (Lib.IsBuilderF TB TU w.heap.size w.heap.size (Lib.byteCells (34 :: (s.data.toList.take 0).flatMap escB)) w1) := h1
  have HB1 : Hid (Below w.heap.size w w1) := hb1'
  clear h1 hb1 hb1'
  go_wp2
  go_loopw [10] (fun iv wr => ∃ k : Nat, k ≤ s.size ∧ iv = .int .i64 k ∧ Hid (Lib.IsBuilderF TB TU w.heap.size w.heap.size (Lib.byteCells (34 :: (s.data.toList.take k).flatMap escB)) wr) ∧ Hid (Below w.heap.size w wr)) (fun iv _ => s.size - (intOf iv).toNat)
  case atStart => exact ⟨0, Nat.zero_le _, rfl, H1, HB1⟩
  case round =>
    obtain ⟨k, hk, rfl, HQ, HW⟩ := hrel
    by_cases hlt : k < s.size
    · have Hget : Hid (s.data.toList[k]? = some (s[k]'hlt)) := byte_at s k hlt
      have hBw : w.heap.size ≤ wr.heap.size := HW.out.size
      by_cases h10 : ((s[k]'hlt).toNat : Int) = 10
      · go_wp2_with (go_at_call 36; refine (ws w.heap.size w.heap.size _ _ wr HQ.out (by have := (HL k).out; show _ + 2 ≤ _; omega) hBw).mono ?_; rintro e w2 ⟨rfl, h2, hb2⟩)
        have H2 : Hid (Lib.IsBuilderF TB TU w.heap.size w.heap.size (Lib.byteCells (34 :: (s.data.toList.take (k + 1)).flatMap escB)) w2) := by
          rw [← q_step s.data.toList k _ Hget.out _ rfl]
          have hc : (s[k]'hlt) = 10 := UInt8.toNat_inj.1 (by show _ = 10; omega)
          rw [hc]
          exact h2
        have HB2 : Hid (Below w.heap.size w w2) := HW.out.trans (by first | exact hb2 | exact hb2.mono hBw)
        clear h2 hb2
        go_wp2
        go_roundw
        case rel => exact ⟨k + 1, by omega, by go_num, H2, HB2⟩
        case measure => simp [intOf]; omega
      · by_cases h34 : ((s[k]'hlt).toNat : Int) = 34
        · go_wp2_with (go_at_call 37; refine (wb w.heap.size w.heap.size _ _ wr HQ.out (by have := (HL k).out; omega) hBw).mono ?_; rintro e w2 ⟨rfl, h2, hb2⟩)
          have HB2 : Hid (Below w.heap.size w w2) := HW.out.trans (by first | exact hb2 | exact hb2.mono hBw)
          refine (wb w.heap.size w.heap.size _ _ w2 h2 (by have := (HL k).out; rw [List.length_append]; show _ + 1 + 1 ≤ _; omega) HB2.out.size).mono ?_
          rintro e w3 ⟨rfl, h3, hb3⟩
          have H3 : Hid (Lib.IsBuilderF TB TU w.heap.size w.heap.size (Lib.byteCells (34 :: (s.data.toList.take (k + 1)).flatMap escB)) w3) := by
            rw [← q_step s.data.toList k _ Hget.out _ rfl]
            have hc : (s[k]'hlt) = 34 := UInt8.toNat_inj.1 (by show _ = 34; omega)
            rw [hc]
            rw [List.append_assoc] at h3
            exact h3
          have HB3 : Hid (Below w.heap.size w w3) := HB2.out.trans hb3
          clear h2 hb2 h3 hb3
          go_wp2
          go_roundw
          case rel => exact ⟨k + 1, by omega, by go_num, H3, HB3⟩
          case measure => simp [intOf]; omega
        · by_cases h92 : ((s[k]'hlt).toNat : Int) = 92
          · go_wp2_with (go_at_call 37; refine (wb w.heap.size w.heap.size _ _ wr HQ.out (by have := (HL k).out; omega) hBw).mono ?_; rintro e w2 ⟨rfl, h2, hb2⟩)
            have HB2 : Hid (Below w.heap.size w w2) := HW.out.trans (by first | exact hb2 | exact hb2.mono hBw)
            refine (wb w.heap.size w.heap.size _ _ w2 h2 (by have := (HL k).out; rw [List.length_append]; show _ + 1 + 1 ≤ _; omega) HB2.out.size).mono ?_
            rintro e w3 ⟨rfl, h3, hb3⟩
            have H3 : Hid (Lib.IsBuilderF TB TU w.heap.size w.heap.size (Lib.byteCells (34 :: (s.data.toList.take (k + 1)).flatMap escB)) w3) := by
              rw [← q_step s.data.toList k _ Hget.out _ rfl]
              have hc : (s[k]'hlt) = 92 := UInt8.toNat_inj.1 (by show _ = 92; omega)
              rw [hc]
              rw [List.append_assoc] at h3
              exact h3
            have HB3 : Hid (Below w.heap.size w w3) := HB2.out.trans hb3
            clear h2 hb2 h3 hb3
            go_wp2
            go_roundw
            case rel => exact ⟨k + 1, by omega, by go_num, H3, HB3⟩
            case measure => simp [intOf]; omega
          · have HN : Hid (s[k]'hlt ≠ 10 ∧ s[k]'hlt ≠ 34 ∧ s[k]'hlt ≠ 92) := ⟨fun e => h10 (by rw [e]; rfl), fun e => h34 (by rw [e]; rfl), fun e => h92 (by rw [e]; rfl)⟩
            by_cases hq : ((s[k]'hlt).toNat : Int) < 32 ∨ 126 < ((s[k]'hlt).toNat : Int)
            · have b34 : ((((s[k]'hlt).toNat : Nat) : Int) == 34) = false := by simpa using h34
              have b92 : ((((s[k]'hlt).toNat : Nat) : Int) == 92) = false := by simpa using h92
              have hc0 : 0 ≤ (((s[k]'hlt).toNat : Nat) : Int) ∧ (((s[k]'hlt).toNat : Nat) : Int) ≤ 255 := by have := (s[k]'hlt).toNat_lt; omega
              have hT' := HT.out.keep HW.out
              rcases hq with hq | hq
              · have hTx := text_any (((s[k]'hlt).toNat : Nat) : Int) (by omega) (by omega) wr hT'
                have hF1 := (fmt_len (s[k]'hlt)).1
                have hF2 := (fmt_len (s[k]'hlt)).2
                simp only [Int.ofNat_eq_natCast] at hF1 hF2
                obtain ⟨F, hF⟩ : ∃ F, F = fmtL (((s[k]'hlt).toNat : Nat) : Int) := ⟨_, rfl⟩
                rw [← hF] at hTx hF1 hF2
                have HFF : Hid (F = fmtL (((s[k]'hlt).toNat : Nat) : Int)) := hF
                clear hF
                have HTx : Hid (Calls Tryd.prog 25 #[.int .i64 (((s[k]'hlt).toNat : Nat) : Int)] wr fun e w' => e = .returned (str F) ∧ Below wr.heap.size wr w') := hTx
                clear hTx
                have hsz1 : (⟨#[48, 48]⟩ ++ (⟨F.toArray⟩ : ByteArray)).size = 2 + F.length := by rw [ByteArray.size_append, JS]; rfl
                go_wp2_with (go_at_call 25; refine HTx.out.mono ?_; rintro e w2 ⟨rfl, hb2⟩)
                have HE : Hid (escB (s[k]'hlt) = 92 :: dig3 (s[k]'hlt)) := by
                  obtain ⟨a, b, c⟩ := HN.out
                  show _ = _
                  unfold escB
                  rw [if_neg a, if_neg (by simp [b, c]), if_pos (by omega)]
                have HB2 : Hid (Below w.heap.size w w2) := HW.out.trans (by first | exact hb2 | exact hb2.mono hBw)
                have h2 := builder_keep HQ.out hb2
                rw [esc_str F]
                refine (ws w.heap.size w.heap.size _ _ w2 h2 (by have := (HL k).out; rw [JS]; simp; omega) HB2.out.size).mono ?_
                rintro e w3 ⟨rfl, h3, hb3⟩
                have H3 : Hid (Lib.IsBuilderF TB TU w.heap.size w.heap.size (Lib.byteCells (34 :: (s.data.toList.take (k + 1)).flatMap escB)) w3) := by
                  rw [← q_step s.data.toList k _ Hget.out _ rfl, HE.out]
                  rw [cells_str] at h3
                  unfold dig3
                  rw [Int.ofNat_eq_natCast, ← HFF.out]
                  exact h3
                have HB3 : Hid (Below w.heap.size w w3) := HB2.out.trans hb3
                clear h2 hb2 h3 hb3
                go_wp2
                go_roundw
                case rel => exact ⟨k + 1, by omega, by go_num, H3, HB3⟩
                case measure => simp [intOf]; omega
              · have hTx := text_any (((s[k]'hlt).toNat : Nat) : Int) (by omega) (by omega) wr hT'
                have hF1 := (fmt_len (s[k]'hlt)).1
                have hF2 := (fmt_len (s[k]'hlt)).2
                simp only [Int.ofNat_eq_natCast] at hF1 hF2
                obtain ⟨F, hF⟩ : ∃ F, F = fmtL (((s[k]'hlt).toNat : Nat) : Int) := ⟨_, rfl⟩
                rw [← hF] at hTx hF1 hF2
                have HFF : Hid (F = fmtL (((s[k]'hlt).toNat : Nat) : Int)) := hF
                clear hF
                have HTx : Hid (Calls Tryd.prog 25 #[.int .i64 (((s[k]'hlt).toNat : Nat) : Int)] wr fun e w' => e = .returned (str F) ∧ Below wr.heap.size wr w') := hTx
                clear hTx
                have hsz1 : (⟨#[48, 48]⟩ ++ (⟨F.toArray⟩ : ByteArray)).size = 2 + F.length := by rw [ByteArray.size_append, JS]; rfl
                go_wp2_with (go_at_call 25; refine HTx.out.mono ?_; rintro e w2 ⟨rfl, hb2⟩)
                have HE : Hid (escB (s[k]'hlt) = 92 :: dig3 (s[k]'hlt)) := by
                  obtain ⟨a, b, c⟩ := HN.out
                  show _ = _
                  unfold escB
                  rw [if_neg a, if_neg (by simp [b, c]), if_pos (by omega)]
                have HB2 : Hid (Below w.heap.size w w2) := HW.out.trans (by first | exact hb2 | exact hb2.mono hBw)
                have h2 := builder_keep HQ.out hb2
                rw [esc_str F]
                refine (ws w.heap.size w.heap.size _ _ w2 h2 (by have := (HL k).out; rw [JS]; simp; omega) HB2.out.size).mono ?_
                rintro e w3 ⟨rfl, h3, hb3⟩
                have H3 : Hid (Lib.IsBuilderF TB TU w.heap.size w.heap.size (Lib.byteCells (34 :: (s.data.toList.take (k + 1)).flatMap escB)) w3) := by
                  rw [← q_step s.data.toList k _ Hget.out _ rfl, HE.out]
                  rw [cells_str] at h3
                  unfold dig3
                  rw [Int.ofNat_eq_natCast, ← HFF.out]
                  exact h3
                have HB3 : Hid (Below w.heap.size w w3) := HB2.out.trans hb3
                clear h2 hb2 h3 hb3
                go_wp2
                go_roundw
                case rel => exact ⟨k + 1, by omega, by go_num, H3, HB3⟩
                case measure => simp [intOf]; omega
            · have h1 : ¬ ((s[k]'hlt).toNat : Int) < 32 := fun h => hq (.inl h)
              have h2 : ¬ 126 < ((s[k]'hlt).toNat : Int) := fun h => hq (.inr h)
              have HE : Hid (escB (s[k]'hlt) = [s[k]'hlt]) := by
                obtain ⟨a, b, c⟩ := HN.out
                show _ = _
                unfold escB
                rw [if_neg a, if_neg (by simp [b, c]), if_neg (by omega)]
              have b34 : ((((s[k]'hlt).toNat : Nat) : Int) == 34) = false := by simpa using h34
              have b92 : ((((s[k]'hlt).toNat : Nat) : Int) == 92) = false := by simpa using h92
              clear hq
              go_wp2_with (go_at_call 37; refine (wb w.heap.size w.heap.size _ _ wr HQ.out (by have := (HL k).out; omega) hBw).mono ?_; rintro e w2 ⟨rfl, h3, hb2⟩)
              have H3 : Hid (Lib.IsBuilderF TB TU w.heap.size w.heap.size (Lib.byteCells (34 :: (s.data.toList.take (k + 1)).flatMap escB)) w2) := by
                rw [← q_step s.data.toList k _ Hget.out _ rfl, HE.out]
                exact h3
              have HB3 : Hid (Below w.heap.size w w2) := HW.out.trans hb2
              clear h3 hb2
              go_wp2
              go_roundw
              case rel => exact ⟨k + 1, by omega, by go_num, H3, HB3⟩
              case measure => simp [intOf]; omega
    · have hk' : k = s.size := by omega
      have HF : Hid ((s.data.toList.take k).flatMap escB = s.data.toList.flatMap escB) := by
        show _ = _
        rw [List.take_of_length_le (by omega)]
      have hBw : w.heap.size ≤ wr.heap.size := HW.out.size
      go_wp2_with (go_at_call 37; refine (wb w.heap.size w.heap.size _ _ wr HQ.out (by have := (HL k).out; omega) hBw).mono ?_; rintro e w2 ⟨rfl, h3, hb2⟩)
      have HB3 : Hid (Below w.heap.size w w2) := HW.out.trans hb2
      have H3 : Lib.IsBuilderF TB TU w.heap.size w.heap.size (Lib.byteCells (quoteL s.data.toList)) w2 := by
        unfold quoteL
        rw [HF.out] at h3
        rw [← List.cons_append, Lib.byteCells_append]
        exact h3
      clear h3 hb2
      refine (bstr w.heap.size w.heap.size _ w2 H3 HB3.out.size).mono ?_
      rintro e w3 ⟨rfl, hb3⟩
      have HB4 : Hid (Below w.heap.size w w3) := HB3.out.trans hb3
      clear hb3 H3
      go_wp2
      go_ret
      exact ⟨rfl, HB4.out⟩
end Go.Proofs.YtpncjpgjmpemiaaDoor
