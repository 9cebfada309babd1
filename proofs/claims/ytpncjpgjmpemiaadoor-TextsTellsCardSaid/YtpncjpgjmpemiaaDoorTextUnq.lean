/- Texts: the characters' bytes and what stands behind a backslash, in the model's worlds. -/
import Derived.Test.YtpncjpgjmpemiaaDoorTextEsc
import Derived.Test.YtpncjpgjmpemiaaDoorTextQuote
import Derived.Test.YtpncjpgjmpemiaaDoorRefEncode
namespace Go.Proofs.YtpncjpgjmpemiaaDoor
open Go.RowKit
set_option linter.unusedSimpArgs false
set_option linter.unusedVariables false

theorem encStr_str (n : Nat) : Value.string (encStr n) = str (encU n) := by
  show _ = Value.string _
  congr 1
  apply ByteArray.ext
  apply Array.ext'
  rw [encStr_data]
theorem encP_any (n : Int) (w : World) : Calls Tryd.prog 59 #[.int .i64 n] w fun e w' => e = .returned (.tuple #[str (encP n).1, .int .i64 (encP n).2]) ∧ Below w.heap.size w w' := by
  unfold encP
  by_cases h : n < 0 ∨ 2147483648 ≤ n
  · rw [if_pos h]
    exact (encode_bad n w h).mono fun e w' ⟨h1, h2⟩ => ⟨h1, by rw [← h2]; exact Below.refl _ _⟩
  · rw [if_neg h]
    rw [← encStr_str]
    exact encode_any n w (by omega) (by omega)
theorem refEncP_any (n : Int) (w : World) : Calls Tryd.prog 66 #[.int .i64 n] w fun e w' => e = .returned (.tuple #[str (encP n).1, .int .i64 (encP n).2]) ∧ Below w.heap.size w w' := by
  unfold encP
  by_cases h : n < 0 ∨ 2147483648 ≤ n
  · rw [if_pos h]
    exact (refEncode_bad n w h).mono fun e w' ⟨h1, h2⟩ => ⟨h1, by rw [← h2]; exact Below.refl _ _⟩
  · rw [if_neg h]
    rw [← encStr_str]
    exact refEncode_any n w (by omega) (by omega)
def encHelp (args : List Value) (H : AHeap) : Option (Value × AHeap) := match args with
  | [.int .i64 n] => some (.tuple #[str (encP n).1, .int .i64 (encP n).2], H)
  | _ => none
def encO : Helps := fun f => cond (Nat.beq f 59 || Nat.beq f 66) (some encHelp) none
theorem encO_sound (gs : List Nat) : CallSound Tryd.prog gs (helpFn encO) := fun f args H v H' h hwf => by
  unfold helpFn encO at h
  cases hf : (Nat.beq f 59 || Nat.beq f 66) with
  | false => rw [hf] at h; cases h
  | true =>
    rw [hf] at h
    simp only [cond] at h
    unfold encHelp at h
    split at h
    · rename_i n
      simp only [Option.some.injEq, Prod.mk.injEq] at h
      obtain ⟨rfl, rfl⟩ := h
      refine quiet_owed rfl rfl fun β w hr hg => ?_
      rw [Bool.or_eq_true] at hf
      rcases hf with hf | hf
      · obtain rfl := Nat.eq_of_beq_eq_true hf
        exact encP_any n w
      · obtain rfl := Nat.eq_of_beq_eq_true hf
        exact refEncP_any n w
    · cases h
/-- what the machine tells of a function of flat things, in any world -/
theorem calls_flat {gs : List Nat} {O : Helps} (ho : CallSound Tryd.prog gs (helpFn O)) (n : Nat) (f : FuncId) (args : List Value) (hf : args.all flat = true) (v : Value) (hv : flat v = true) (β : Ren) (H : AHeap) (W : World) (hr : Rel β H W) (hg : GlobOk gs β) (hwf : WF H) (hown : ∀ i s, β i = some s → s.own = false)
    (h : ∃ H', oCall Tryd.prog gs O n f args H = some (v, H')) : Calls Tryd.prog f args.toArray W fun e w' => e = .returned v ∧ Below W.heap.size W w' := by
  obtain ⟨H', h⟩ := h
  obtain ⟨_, hs⟩ := oCall_sound ho (by kernel_rfl) n f args H v H' h hwf
  refine (hs β W args hr hg ⟨rfl, fun j x y hx hy => ?_⟩).mono fun e w' hh => ?_
  · rw [hx] at hy; cases hy
    exact (flat_vr (List.all_eq_true.1 hf x (List.mem_of_getElem? hx)) _).1
  · obtain ⟨v', β', rfl, g1, g2, _⟩ := hh
    rw [(flat_vr hv _).2 _ g1]
    exact ⟨rfl, g2.below hown⟩
theorem empty_rel (w : World) : Rel (fun _ => none) ⟨.nil, 0, []⟩ w ∧ WF ⟨.nil, 0, []⟩ := by
  refine ⟨⟨?_, ?_, ?_, ?_⟩, ?_⟩
  · intro i o s _ hs; cases hs
  · intro i s hs; cases hs
  · intro i j oi oj si sj _ _ c; cases c
  · intro i _; rfl
  · intro i _; exact Tr.get_nil i
theorem escape_any (l : List UInt8) (hl : l.length < 4611686018427387904) (w : World) : Calls Tryd.prog 35 #[str l] w fun e w' => e = .returned (.tuple #[str (escP l).1, .int .i64 (.ofNat (escP l).2)]) ∧ Below w.heap.size w w' := by
  obtain ⟨hr, hwf⟩ := empty_rel w
  refine calls_flat (gs := []) (encO_sound []) (l.length + 13 + 6) _ [str l] rfl _ rfl (fun _ => none) ⟨.nil, 0, []⟩ w hr (fun g hg => by cases hg) hwf (fun i s hs => by cases hs) ⟨_, escape_t (fun f hf => ?_) (fun nx lg x => ?_) l (by omega) hl⟩
  · unfold encO
    have h1 : Nat.beq f 59 = false := by
      cases h : Nat.beq f 59 with
      | false => rfl
      | true => obtain rfl := Nat.eq_of_beq_eq_true h; exact absurd (by decide) hf
    have h2 : Nat.beq f 66 = false := by
      cases h : Nat.beq f 66 with
      | false => rfl
      | true => obtain rfl := Nat.eq_of_beq_eq_true h; exact absurd (by decide) hf
    rw [h1, h2]; rfl
  · simp only [oCall]
    rfl
/-! ### Unquote -/
theorem escU_len (r : List UInt8) : (escU r).2 ≤ 1 + r.length ∧ (escU r).1.length ≤ 6 * (escU r).2 := by
  unfold escU
  split
  · rename_i t
    split
    · rename_i h
      have h1 := digP_le 16 (t.length + 2) 0 t
      generalize digP 16 (t.length + 2) 0 t = D at h h1 ⊢
      obtain ⟨h2, h3, h4⟩ := h
      have h5 : D.2 < t.length := by
        rcases Nat.lt_or_ge D.2 t.length with h | h
        · exact h
        · rw [List.drop_eq_nil_of_le h] at h4; cases h4
      refine ⟨by simp only [List.length_cons]; omega, ?_⟩
      have : (encP D.1).1.length ≤ 6 := by
        unfold encP
        split
        · exact Nat.zero_le _
        · rw [encU_len]; exact (encN_len _).2
      show (encP D.1).1.length ≤ 6 * (D.2 + 3)
      omega
    · exact ⟨Nat.zero_le _, Nat.zero_le _⟩
  · exact ⟨Nat.zero_le _, Nat.zero_le _⟩
theorem letterP_len (c : UInt8) : (letterP c).2 ≤ 1 ∧ (letterP c).1.length ≤ 6 * (letterP c).2 := by
  unfold letterP
  split
  · exact ⟨Nat.le_refl _, by simp⟩
  · exact ⟨Nat.zero_le _, Nat.zero_le _⟩
theorem digitB_hex (c : UInt8) (h : digitB c = true) : (hexB c).2 = true ∧ (hexB c).1 < 10 := by
  have := every_byte (f := fun b => !digitB b || decide ((hexB b).2 = true ∧ (hexB b).1 < 10)) (by kernel_rfl) c
  rw [h] at this
  exact of_decide_eq_true this
theorem escR_len (c : UInt8) (r : List UInt8) : (escR c r).2 ≤ 1 + r.length ∧ (escR c r).1.length ≤ 6 * (escR c r).2 := by
  unfold escR
  split
  · have := digP_le 16 2 0 r
    split
    · exact ⟨by show 3 ≤ _; omega, by show 1 ≤ 6 * 3; omega⟩
    · exact ⟨Nat.zero_le _, Nat.zero_le _⟩
  split
  · have := (List.takeWhile_sublist (l := r) spaceB).length_le
    exact ⟨by show 1 + _ ≤ _; omega, Nat.zero_le _⟩
  split
  · exact escU_len r
  split
  · rename_i hd
    obtain ⟨h1, h2⟩ := digitB_hex c hd
    have h3 := digP_le 10 3 0 (c :: r)
    have h4 : 1 ≤ (digP 10 3 0 (c :: r)).2 := by
      rw [digP_go (by decide) h1 h2]; exact Nat.le_add_left _ _
    split
    · refine ⟨?_, ?_⟩
      · simp only [List.length_cons] at h3; show (digP 10 3 0 (c :: r)).2 ≤ _; omega
      · show 1 ≤ 6 * (digP 10 3 0 (c :: r)).2; omega
    · exact ⟨Nat.zero_le _, Nat.zero_le _⟩
  · have := letterP_len c
    exact ⟨by omega, this.2⟩
theorem escP_len : ∀ l : List UInt8, (escP l).2 ≤ l.length ∧ (escP l).1.length ≤ 6 * (escP l).2
  | [] => ⟨Nat.zero_le _, Nat.zero_le _⟩
  | c :: r => by
    by_cases h : c = 10 ∨ c = 13
    · unfold escP
      dsimp only
      rw [if_pos h]
      cases r with
      | nil => exact ⟨Nat.le_refl _, by show 1 ≤ 6; omega⟩
      | cons d t =>
        dsimp only
        split
        · exact ⟨by show 2 ≤ t.length + 1 + 1; omega, by show 1 ≤ 12; omega⟩
        · exact ⟨by show 1 ≤ t.length + 1 + 1; omega, by show 1 ≤ 6; omega⟩
    · rw [escP_else h, List.length_cons]
      have := escR_len c r
      exact ⟨by omega, this.2⟩
theorem escape_str (s : ByteArray) (hs : s.size ≤ 1000000000) (w : World) : Calls Tryd.prog 35 #[.string s] w fun e w' => e = .returned (.tuple #[str (escP s.data.toList).1, .int .i64 ((escP s.data.toList).2 : Int)]) ∧ Below w.heap.size w w' := by
  have h := escape_any s.data.toList (by have : s.data.toList.length = s.size := by simp
                                         omega) w
  exact h
set_option maxHeartbeats 4000000 in
set_option maxRecDepth 100000 in
theorem unquote_any (s : ByteArray) (w : World) (hs : s.size ≤ 1000000000) :
    Calls Tryd.prog 12 #[.string s] w fun e w' => e = .returned (unqV (unqP s.data.toList)) ∧ Below w.heap.size w w' := by
  have hlen : s.data.toList.length = s.size := by simp
  by_cases h2 : s.size < 2
  · have hu : unqP s.data.toList = none := by
      cases hl : s.data.toList with
      | nil => rfl
      | cons q r =>
        rw [hl] at hlen
        have : r = [] := List.eq_nil_of_length_eq_zero (by simp at hlen; omega)
        subst this; rfl
    have HU : Hid (unqP s.data.toList = none) := hu
    clear hu
    go_enter Tryd.func12, Tryd.ntmps12
    go_wp2
    go_step3
    go_wp2
    go_ret2
    exact ⟨by rw [HU.out]; rfl, Below.refl _ _⟩
  · obtain ⟨q, hq⟩ : ∃ q, s.data.toList[0]? = some q := ⟨_, List.getElem?_eq_getElem (by omega)⟩
    have h0 : 0 < s.size := by omega
    have hs0 : s[0]'h0 = q := by
      have := byte_at s 0 h0
      rw [hq] at this
      exact (Option.some.inj this).symm
    have hl0 : s.data.toList = q :: s.data.toList.drop 1 := by
      have := List.drop_eq_getElem_cons (l := s.data.toList) (i := 0) (by omega)
      rw [List.getElem?_eq_getElem (by omega)] at hq
      rw [Option.some.inj hq] at this
      simpa using this
    have hr0 : s.data.toList.drop 1 ≠ [] := fun e => by
      have := congrArg List.length e
      rw [List.length_drop, hlen] at this; simp at this; omega
    by_cases hqq : ((s[0]'h0).toNat : Int) = 34 ∨ ((s[0]'h0).toNat : Int) = 39
    · have HU : Hid (unqP s.data.toList = unqF q s.size (s.data.toList.drop 1) []) := by
        show _ = _
        rw [hl0]
        have hq' : ¬ (s.data.toList.drop 1 = [] ∨ (q ≠ 34 ∧ q ≠ 39)) := by
          rintro (h | ⟨h, h'⟩)
          · exact hr0 h
          · rcases hqq with e | e
            · exact h (UInt8.toNat_inj.1 (by rw [← hs0]; show _ = 34; omega))
            · exact h' (UInt8.toNat_inj.1 (by rw [← hs0]; show _ = 39; omega))
        unfold unqP
        dsimp only
        rw [if_neg hq']
        rw [show (q :: s.data.toList.drop 1).drop 1 = s.data.toList.drop 1 from rfl]
        congr 1
        rw [List.length_drop, hlen]; omega
      obtain ⟨R, hR⟩ : ∃ R, R = unqP s.data.toList := ⟨_, rfl⟩
      rw [← hR]
      have HR : Hid (R = unqF q s.size (s.data.toList.drop 1) []) := by show _ = _; rw [hR]; exact HU.out
      clear hR HU hl0 hr0
      have HQ0 : Hid (s[0]'h0 = q) := hs0
      clear hs0 hq
      go_enter Tryd.func12, Tryd.ntmps12
      rcases hqq with hqq | hqq
      · go_wp2
        go_step3
        go_wp2
        go_step3
        go_wp2
        have H1 : Hid (Lib.IsBuilderF TB TU w.heap.size w.heap.size (Lib.byteCells []) (w.alloc (Obj.cells #[Value.pointer none, Value.slice none 0 0] TB))) := Lib.IsBuilderF.of (Lib.fresh_isBuilder TB TU w)
        have HB1 : Hid (Below w.heap.size w (w.alloc (Obj.cells #[Value.pointer none, Value.slice none 0 0] TB))) := (Below.refl w.heap.size w).alloc (Nat.le_refl _) _
        go_loopw [5] (fun av wr => ∃ (k f : Nat) (out : List UInt8), 1 ≤ k ∧ k ≤ s.size ∧ av = .int .i64 k ∧ Hid (R = unqF q f (s.data.toList.drop k) out) ∧ s.size < k + f ∧ out.length ≤ 6 * k ∧ Hid (Lib.IsBuilderF TB TU w.heap.size w.heap.size (Lib.byteCells out) wr) ∧ Hid (Below w.heap.size w wr)) (fun av _ => s.size - (intOf av).toNat)
        case atStart => exact ⟨1, s.size, [], Nat.le_refl _, by omega, rfl, HR, by omega, by simp, H1, HB1⟩
        case round =>
          obtain ⟨k, f, out, hk1, hk, rfl, HF, hf, hout, HQ, HW⟩ := hrel
          have hBw : w.heap.size ≤ wr.heap.size := HW.out.size
          have HL : Hid ((Lib.byteCells out).length ≤ 6000000000) := by show _ ≤ _; rw [Lib.byteCells_length]; omega
          clear HR H1 HB1
          by_cases hlt : k < s.size
          · obtain ⟨f, rfl⟩ : ∃ f', f = f' + 1 := ⟨f - 1, by omega⟩
            have hd : s.data.toList.drop k = (s[k]'hlt) :: s.data.toList.drop (k + 1) := by
              have h1 := List.drop_eq_getElem_cons (l := s.data.toList) (i := k) (by omega)
              have h2 := byte_at s k hlt
              rw [List.getElem?_eq_getElem (by omega)] at h2
              rw [h1, Option.some.inj h2]
            have HD : Hid (s.data.toList.drop k = (s[k]'hlt) :: s.data.toList.drop (k + 1)) := hd
            clear hd
            by_cases hcq : ((s[k]'hlt).toNat : Int) = 34
            · have HC : Hid (s[k]'hlt = q) := by show _ = _; exact UInt8.toNat_inj.1 (by rw [← HQ0.out]; omega)
              by_cases hend : s.size = k + 1
              · have HE : Hid (R = some out) := by
                  show _ = _
                  rw [HF.out, HD.out, unqF, if_pos HC.out, if_pos (List.drop_eq_nil_of_le (by omega))]
                clear HF HD HC
                go_wp2_with fail
                refine (bstr w.heap.size w.heap.size _ wr HQ.out hBw).mono ?_
                rintro e w3 ⟨rfl, hb3⟩
                have HB4 : Hid (Below w.heap.size w w3) := HW.out.trans hb3
                clear hb3
                go_wp2_with fail
                rw [Exit.noGoto_ret]
                go_ret2
                exact ⟨by rw [HE.out]; rfl, HB4.out⟩
              · have HE : Hid (R = none) := by
                  show _ = _
                  rw [HF.out, HD.out, unqF, if_pos HC.out, if_neg (fun e => by have := congrArg List.length e; rw [List.length_drop, hlen] at this; simp at this; omega)]
                clear HF HD HC
                have hne : ¬ (k : Int) = (s.size : Int) - 1 := by omega
                go_wp2_with fail
                rw [Exit.noGoto_ret]
                go_ret2
                exact ⟨by rw [HE.out]; rfl, HW.out⟩
            · have HC : Hid (s[k]'hlt ≠ q) := by show _ ≠ _; intro e; rw [e, ← HQ0.out] at hcq; exact hcq hqq
              by_cases hnl : ((s[k]'hlt).toNat : Int) = 10 ∨ ((s[k]'hlt).toNat : Int) = 13
              · have HE : Hid (R = none) := by
                  show _ = _
                  rw [HF.out, HD.out, unqF, if_neg HC.out, if_pos (hnl.imp (fun e => UInt8.toNat_inj.1 (by show _ = 10; omega)) (fun e => UInt8.toNat_inj.1 (by show _ = 13; omega)))]
                clear HF HD HC
                rcases hnl with hnl | hnl
                · go_wp2_with fail
                  rw [Exit.noGoto_ret]
                  go_ret2
                  exact ⟨by rw [HE.out]; rfl, HW.out⟩
                · go_wp2_with fail
                  rw [Exit.noGoto_ret]
                  go_ret2
                  exact ⟨by rw [HE.out]; rfl, HW.out⟩
              · have h10 : ¬ ((s[k]'hlt).toNat : Int) = 10 := fun e => hnl (.inl e)
                have h13 : ¬ ((s[k]'hlt).toNat : Int) = 13 := fun e => hnl (.inr e)
                have b10 : (((s[k]'hlt).toNat : Int) == 10) = false := by simpa using h10
                have b13 : (((s[k]'hlt).toNat : Int) == 13) = false := by simpa using h13
                have HN : Hid (¬ (s[k]'hlt = 10 ∨ s[k]'hlt = 13)) := by
                  show ¬ _
                  rintro (e | e)
                  · exact h10 (by rw [e]; rfl)
                  · exact h13 (by rw [e]; rfl)
                clear hnl
                by_cases h92 : ((s[k]'hlt).toNat : Int) = 92
                · have HF2 : Hid (R = if (escP (s.data.toList.drop (k + 1))).2 = 0 then none else unqF q f ((s.data.toList.drop (k + 1)).drop (escP (s.data.toList.drop (k + 1))).2) (out ++ (escP (s.data.toList.drop (k + 1))).1)) := by
                    show _ = _
                    rw [HF.out, HD.out, unqF, if_neg HC.out, if_neg HN.out, if_pos (UInt8.toNat_inj.1 (by show _ = 92; omega))]
                  have HX : Hid (Calls Tryd.prog 35 #[.string (s.extract (k + 1) s.size)] wr fun e w' => e = .returned (.tuple #[str (escP (s.data.toList.drop (k + 1))).1, .int .i64 ((escP (s.data.toList.drop (k + 1))).2 : Int)]) ∧ Below wr.heap.size wr w') := by
                    have e : (s.extract (k + 1) s.size).data.toList = s.data.toList.drop (k + 1) := by
                      rw [ByteArray.data_extract, Array.toList_extract, List.extract_eq_take_drop, List.take_of_length_le]
                      rw [List.length_drop, hlen]; omega
                    have := escape_str (s.extract (k + 1) s.size) (by rw [ByteArray.size_extract]; omega) wr
                    rw [e] at this
                    exact this
                  have HEL : Hid ((escP (s.data.toList.drop (k + 1))).2 ≤ s.size - (k + 1) ∧ (escP (s.data.toList.drop (k + 1))).1.length ≤ 6 * (escP (s.data.toList.drop (k + 1))).2) := by
                    have := escP_len (s.data.toList.drop (k + 1))
                    rw [List.length_drop, hlen] at this
                    exact this
                  obtain ⟨X, hX⟩ : ∃ X, X = escP (s.data.toList.drop (k + 1)) := ⟨_, rfl⟩
                  rw [← hX] at HF2 HX HEL
                  clear hX HF HD HC HN
                  by_cases hX0 : (X.2 : Int) = 0
                  · have HE : Hid (R = none) := by
                      show _ = _
                      rw [HF2.out, if_pos (by omega)]
                    clear HF2
                    go_wp2_with (go_at_call 35; refine HX.out.mono ?_; rintro e w2 ⟨rfl, hb2⟩)
                    rw [Exit.noGoto_ret]
                    go_ret2
                    exact ⟨by rw [HE.out]; rfl, HW.out.trans (by first | exact hb2 | exact hb2.mono hBw)⟩
                  · have HE : Hid (R = unqF q f (s.data.toList.drop (k + 1 + X.2)) (out ++ X.1)) := by
                      show _ = _
                      rw [HF2.out, if_neg (by omega), List.drop_drop]
                    clear HF2
                    have hx1 := HEL.out.1
                    have hx2 := HEL.out.2
                    clear HEL
                    go_wp2_with (go_at_call 35; refine HX.out.mono ?_; rintro e w2 ⟨rfl, hb2⟩)
                    have HB2 : Hid (Below w.heap.size w w2) := HW.out.trans (by first | exact hb2 | exact hb2.mono hBw)
                    have h2 := builder_keep HQ.out hb2
                    refine (ws w.heap.size w.heap.size _ _ w2 h2 (by have := HL.out; rw [JS]; omega) HB2.out.size).mono ?_
                    rintro e w3 ⟨rfl, h3, hb3⟩
                    have H3 : Hid (Lib.IsBuilderF TB TU w.heap.size w.heap.size (Lib.byteCells (out ++ X.1)) w3) := by
                      rw [cells_str] at h3
                      rw [Lib.byteCells_append]
                      exact h3
                    have HB3 : Hid (Below w.heap.size w w3) := HB2.out.trans hb3
                    clear h2 hb2 h3 hb3
                    go_wp2_with fail
                    go_roundw
                    case rel => exact ⟨k + 1 + X.2, f, _, by omega, by omega, by go_num, HE, by omega, by rw [List.length_append]; omega, H3, HB3⟩
                    case measure => simp [intOf]; omega
                · have HE : Hid (R = unqF q f (s.data.toList.drop (k + 1)) (out ++ [s[k]'hlt])) := by
                    show _ = _
                    rw [HF.out, HD.out, unqF, if_neg HC.out, if_neg HN.out, if_neg (fun e => h92 (by rw [e]; rfl))]
                  clear HF HD HC HN
                  go_wp2_with (go_at_call 37; refine (wb w.heap.size w.heap.size _ _ wr HQ.out (by have := HL.out; omega) hBw).mono ?_; rintro e w2 ⟨rfl, h3, hb2⟩)
                  have H3 : Hid (Lib.IsBuilderF TB TU w.heap.size w.heap.size (Lib.byteCells (out ++ [s[k]'hlt])) w2) := by
                    rw [Lib.byteCells_append]
                    exact h3
                  have HB3 : Hid (Below w.heap.size w w2) := HW.out.trans (by first | exact hb2 | exact hb2.mono hBw)
                  clear h3 hb2
                  go_wp2_with fail
                  go_roundw
                  case rel => exact ⟨k + 1, f, _, by omega, by omega, by go_num, HE, by omega, by simp; omega, H3, HB3⟩
                  case measure => simp [intOf]; omega
          · obtain ⟨f, rfl⟩ : ∃ f', f = f' + 1 := ⟨f - 1, by omega⟩
            have HE : Hid (R = none) := by
              show _ = _
              rw [HF.out, List.drop_eq_nil_of_le (by omega), unqF]
            clear HF
            have hk' : k = s.size := by omega
            have hne : ¬ (k : Int) = (s.size : Int) - 1 := by omega
            go_wp2_with fail
            rw [Exit.noGoto_ret]
            go_ret2
            exact ⟨by rw [HE.out]; rfl, HW.out⟩
      · go_wp2
        go_step3
        go_wp2
        go_step3
        go_wp2
        have H1 : Hid (Lib.IsBuilderF TB TU w.heap.size w.heap.size (Lib.byteCells []) (w.alloc (Obj.cells #[Value.pointer none, Value.slice none 0 0] TB))) := Lib.IsBuilderF.of (Lib.fresh_isBuilder TB TU w)
        have HB1 : Hid (Below w.heap.size w (w.alloc (Obj.cells #[Value.pointer none, Value.slice none 0 0] TB))) := (Below.refl w.heap.size w).alloc (Nat.le_refl _) _
        go_loopw [5] (fun av wr => ∃ (k f : Nat) (out : List UInt8), 1 ≤ k ∧ k ≤ s.size ∧ av = .int .i64 k ∧ Hid (R = unqF q f (s.data.toList.drop k) out) ∧ s.size < k + f ∧ out.length ≤ 6 * k ∧ Hid (Lib.IsBuilderF TB TU w.heap.size w.heap.size (Lib.byteCells out) wr) ∧ Hid (Below w.heap.size w wr)) (fun av _ => s.size - (intOf av).toNat)
        case atStart => exact ⟨1, s.size, [], Nat.le_refl _, by omega, rfl, HR, by omega, by simp, H1, HB1⟩
        case round =>
          obtain ⟨k, f, out, hk1, hk, rfl, HF, hf, hout, HQ, HW⟩ := hrel
          have hBw : w.heap.size ≤ wr.heap.size := HW.out.size
          have HL : Hid ((Lib.byteCells out).length ≤ 6000000000) := by show _ ≤ _; rw [Lib.byteCells_length]; omega
          clear HR H1 HB1
          by_cases hlt : k < s.size
          · obtain ⟨f, rfl⟩ : ∃ f', f = f' + 1 := ⟨f - 1, by omega⟩
            have hd : s.data.toList.drop k = (s[k]'hlt) :: s.data.toList.drop (k + 1) := by
              have h1 := List.drop_eq_getElem_cons (l := s.data.toList) (i := k) (by omega)
              have h2 := byte_at s k hlt
              rw [List.getElem?_eq_getElem (by omega)] at h2
              rw [h1, Option.some.inj h2]
            have HD : Hid (s.data.toList.drop k = (s[k]'hlt) :: s.data.toList.drop (k + 1)) := hd
            clear hd
            by_cases hcq : ((s[k]'hlt).toNat : Int) = 39
            · have HC : Hid (s[k]'hlt = q) := by show _ = _; exact UInt8.toNat_inj.1 (by rw [← HQ0.out]; omega)
              by_cases hend : s.size = k + 1
              · have HE : Hid (R = some out) := by
                  show _ = _
                  rw [HF.out, HD.out, unqF, if_pos HC.out, if_pos (List.drop_eq_nil_of_le (by omega))]
                clear HF HD HC
                go_wp2_with fail
                refine (bstr w.heap.size w.heap.size _ wr HQ.out hBw).mono ?_
                rintro e w3 ⟨rfl, hb3⟩
                have HB4 : Hid (Below w.heap.size w w3) := HW.out.trans hb3
                clear hb3
                go_wp2_with fail
                rw [Exit.noGoto_ret]
                go_ret2
                exact ⟨by rw [HE.out]; rfl, HB4.out⟩
              · have HE : Hid (R = none) := by
                  show _ = _
                  rw [HF.out, HD.out, unqF, if_pos HC.out, if_neg (fun e => by have := congrArg List.length e; rw [List.length_drop, hlen] at this; simp at this; omega)]
                clear HF HD HC
                have hne : ¬ (k : Int) = (s.size : Int) - 1 := by omega
                go_wp2_with fail
                rw [Exit.noGoto_ret]
                go_ret2
                exact ⟨by rw [HE.out]; rfl, HW.out⟩
            · have HC : Hid (s[k]'hlt ≠ q) := by show _ ≠ _; intro e; rw [e, ← HQ0.out] at hcq; exact hcq hqq
              by_cases hnl : ((s[k]'hlt).toNat : Int) = 10 ∨ ((s[k]'hlt).toNat : Int) = 13
              · have HE : Hid (R = none) := by
                  show _ = _
                  rw [HF.out, HD.out, unqF, if_neg HC.out, if_pos (hnl.imp (fun e => UInt8.toNat_inj.1 (by show _ = 10; omega)) (fun e => UInt8.toNat_inj.1 (by show _ = 13; omega)))]
                clear HF HD HC
                rcases hnl with hnl | hnl
                · go_wp2_with fail
                  rw [Exit.noGoto_ret]
                  go_ret2
                  exact ⟨by rw [HE.out]; rfl, HW.out⟩
                · go_wp2_with fail
                  rw [Exit.noGoto_ret]
                  go_ret2
                  exact ⟨by rw [HE.out]; rfl, HW.out⟩
              · have h10 : ¬ ((s[k]'hlt).toNat : Int) = 10 := fun e => hnl (.inl e)
                have h13 : ¬ ((s[k]'hlt).toNat : Int) = 13 := fun e => hnl (.inr e)
                have b10 : (((s[k]'hlt).toNat : Int) == 10) = false := by simpa using h10
                have b13 : (((s[k]'hlt).toNat : Int) == 13) = false := by simpa using h13
                have HN : Hid (¬ (s[k]'hlt = 10 ∨ s[k]'hlt = 13)) := by
                  show ¬ _
                  rintro (e | e)
                  · exact h10 (by rw [e]; rfl)
                  · exact h13 (by rw [e]; rfl)
                clear hnl
                by_cases h92 : ((s[k]'hlt).toNat : Int) = 92
                · have HF2 : Hid (R = if (escP (s.data.toList.drop (k + 1))).2 = 0 then none else unqF q f ((s.data.toList.drop (k + 1)).drop (escP (s.data.toList.drop (k + 1))).2) (out ++ (escP (s.data.toList.drop (k + 1))).1)) := by
                    show _ = _
                    rw [HF.out, HD.out, unqF, if_neg HC.out, if_neg HN.out, if_pos (UInt8.toNat_inj.1 (by show _ = 92; omega))]
                  have HX : Hid (Calls Tryd.prog 35 #[.string (s.extract (k + 1) s.size)] wr fun e w' => e = .returned (.tuple #[str (escP (s.data.toList.drop (k + 1))).1, .int .i64 ((escP (s.data.toList.drop (k + 1))).2 : Int)]) ∧ Below wr.heap.size wr w') := by
                    have e : (s.extract (k + 1) s.size).data.toList = s.data.toList.drop (k + 1) := by
                      rw [ByteArray.data_extract, Array.toList_extract, List.extract_eq_take_drop, List.take_of_length_le]
                      rw [List.length_drop, hlen]; omega
                    have := escape_str (s.extract (k + 1) s.size) (by rw [ByteArray.size_extract]; omega) wr
                    rw [e] at this
                    exact this
                  have HEL : Hid ((escP (s.data.toList.drop (k + 1))).2 ≤ s.size - (k + 1) ∧ (escP (s.data.toList.drop (k + 1))).1.length ≤ 6 * (escP (s.data.toList.drop (k + 1))).2) := by
                    have := escP_len (s.data.toList.drop (k + 1))
                    rw [List.length_drop, hlen] at this
                    exact this
                  obtain ⟨X, hX⟩ : ∃ X, X = escP (s.data.toList.drop (k + 1)) := ⟨_, rfl⟩
                  rw [← hX] at HF2 HX HEL
                  clear hX HF HD HC HN
                  by_cases hX0 : (X.2 : Int) = 0
                  · have HE : Hid (R = none) := by
                      show _ = _
                      rw [HF2.out, if_pos (by omega)]
                    clear HF2
                    go_wp2_with (go_at_call 35; refine HX.out.mono ?_; rintro e w2 ⟨rfl, hb2⟩)
                    rw [Exit.noGoto_ret]
                    go_ret2
                    exact ⟨by rw [HE.out]; rfl, HW.out.trans (by first | exact hb2 | exact hb2.mono hBw)⟩
                  · have HE : Hid (R = unqF q f (s.data.toList.drop (k + 1 + X.2)) (out ++ X.1)) := by
                      show _ = _
                      rw [HF2.out, if_neg (by omega), List.drop_drop]
                    clear HF2
                    have hx1 := HEL.out.1
                    have hx2 := HEL.out.2
                    clear HEL
                    go_wp2_with (go_at_call 35; refine HX.out.mono ?_; rintro e w2 ⟨rfl, hb2⟩)
                    have HB2 : Hid (Below w.heap.size w w2) := HW.out.trans (by first | exact hb2 | exact hb2.mono hBw)
                    have h2 := builder_keep HQ.out hb2
                    refine (ws w.heap.size w.heap.size _ _ w2 h2 (by have := HL.out; rw [JS]; omega) HB2.out.size).mono ?_
                    rintro e w3 ⟨rfl, h3, hb3⟩
                    have H3 : Hid (Lib.IsBuilderF TB TU w.heap.size w.heap.size (Lib.byteCells (out ++ X.1)) w3) := by
                      rw [cells_str] at h3
                      rw [Lib.byteCells_append]
                      exact h3
                    have HB3 : Hid (Below w.heap.size w w3) := HB2.out.trans hb3
                    clear h2 hb2 h3 hb3
                    go_wp2_with fail
                    go_roundw
                    case rel => exact ⟨k + 1 + X.2, f, _, by omega, by omega, by go_num, HE, by omega, by rw [List.length_append]; omega, H3, HB3⟩
                    case measure => simp [intOf]; omega
                · have HE : Hid (R = unqF q f (s.data.toList.drop (k + 1)) (out ++ [s[k]'hlt])) := by
                    show _ = _
                    rw [HF.out, HD.out, unqF, if_neg HC.out, if_neg HN.out, if_neg (fun e => h92 (by rw [e]; rfl))]
                  clear HF HD HC HN
                  go_wp2_with (go_at_call 37; refine (wb w.heap.size w.heap.size _ _ wr HQ.out (by have := HL.out; omega) hBw).mono ?_; rintro e w2 ⟨rfl, h3, hb2⟩)
                  have H3 : Hid (Lib.IsBuilderF TB TU w.heap.size w.heap.size (Lib.byteCells (out ++ [s[k]'hlt])) w2) := by
                    rw [Lib.byteCells_append]
                    exact h3
                  have HB3 : Hid (Below w.heap.size w w2) := HW.out.trans (by first | exact hb2 | exact hb2.mono hBw)
                  clear h3 hb2
                  go_wp2_with fail
                  go_roundw
                  case rel => exact ⟨k + 1, f, _, by omega, by omega, by go_num, HE, by omega, by simp; omega, H3, HB3⟩
                  case measure => simp [intOf]; omega
          · obtain ⟨f, rfl⟩ : ∃ f', f = f' + 1 := ⟨f - 1, by omega⟩
            have HE : Hid (R = none) := by
              show _ = _
              rw [HF.out, List.drop_eq_nil_of_le (by omega), unqF]
            clear HF
            have hk' : k = s.size := by omega
            have hne : ¬ (k : Int) = (s.size : Int) - 1 := by omega
            go_wp2_with fail
            rw [Exit.noGoto_ret]
            go_ret2
            exact ⟨by rw [HE.out]; rfl, HW.out⟩
    · have a34 : ¬ ((s[0]'h0).toNat : Int) = 34 := fun e => hqq (.inl e)
      have a39 : ¬ ((s[0]'h0).toNat : Int) = 39 := fun e => hqq (.inr e)
      have HU : Hid (unqP s.data.toList = none) := by
        show _ = _
        rw [hl0]
        unfold unqP
        dsimp only
        rw [if_pos (.inr ⟨fun e => a34 (by rw [hs0, e]; rfl), fun e => a39 (by rw [hs0, e]; rfl)⟩)]
      clear hl0 hr0 hs0 hq hqq
      have b34 : (((s[0]'h0).toNat : Int) != 34) = true := by simpa using a34
      have b39 : (((s[0]'h0).toNat : Int) != 39) = true := by simpa using a39
      go_enter Tryd.func12, Tryd.ntmps12
      go_wp2
      go_step3
      go_wp2
      rw [Exit.noGoto_ret]
      go_ret2
      exact ⟨by rw [HU.out]; rfl, Below.refl _ _⟩
end Go.Proofs.YtpncjpgjmpemiaaDoor
