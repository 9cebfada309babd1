/- Give of a pool, as walked. -/
import Derived.Test.YtmflapajjghpmaaPoolOps
import Derived.Test.YtmflapajjghpmaaElems
import Derived.Deep.Cut
import Derived.Deep.CutBlock
namespace Go.Proofs.Ytmflapajjghpmaa
open Go.RowKit

set_option maxRecDepth 100000 in
set_option maxHeartbeats 8000000 in
theorem give_no (b : Nat) (st : PS) (sv fv : Value) (id : Int) (w : World) (h : PoolIs w b st sv fv) (hl : st.sizes.length ≤ 65536) (hh : hasP st id = false) :
    Calls Try.prog 17 #[.pointer (some ⟨b, 0, none⟩), .int .i64 id] w fun e w' => e = .returned (.int .i64 2) ∧ w = w' := by
  obtain ⟨c0, _, _, _, _, _⟩ := pool_cell h
  have hc := has_any b st sv fv id w h hl
  rw [hh] at hc
  have HC := Lib.hid hc
  clear hc h hh
  go_enter Try.func17, Try.ntmps17
  go_wp2_with (first | (go_at_call 81; refine (none_made b true _ c0).mono ?_; rintro e w' ⟨rfl, rfl⟩) | (go_at_call 82; refine HC.out.mono ?_; rintro e w' ⟨rfl, rfl⟩))
  go_ret
  exact ⟨rfl, rfl⟩

set_option maxRecDepth 100000 in
set_option maxHeartbeats 8000000 in
theorem give_yes (b j : Nat) (bd us ct : Int) (sz fr : List Int) (sv fv : Value) (w : World) (h : PoolIs w b ⟨bd, us, ct, sz, fr⟩ sv fv) (hG : Good ⟨bd, us, ct, sz, fr⟩) (hjl : j < sz.length) (hj0 : 0 ≤ sz.getD j 0) (hct : 1 ≤ ct ∧ ct ≤ 65536) (hfr : fr.length < 65536) :
    Calls Try.prog 17 #[.pointer (some ⟨b, 0, none⟩), .int .i64 ((j : Int) + 1)] w fun e w' => e = .returned (.int .i64 0) ∧ ∃ fv', PoolIs w' b ⟨bd, us - sz.getD j 0, ct - 1, sz.set j (-1), heapPush fr ((j : Int) + 1)⟩ sv fv' ∧ MovedTo w fv fv' ∧ Touch (Foot b sv fv) w w' := by
  have hl := hG.len
  have hh : hasP ⟨bd, us, ct, sz, fr⟩ ((j : Int) + 1) = true := by
    simp only [hasP, Bool.and_eq_true, decide_eq_true_eq]
    rw [show ((j : Int) + 1 - 1).toNat = j from by omega]
    exact ⟨⟨by omega, by omega⟩, hj0⟩
  have hc := has_any b ⟨bd, us, ct, sz, fr⟩ sv fv ((j : Int) + 1) w h hl
  rw [hh] at hc
  have HC := Lib.hid hc
  have HP := Lib.hid h
  obtain ⟨c0, _, c2, c3, c4, c5⟩ := pool_cell h
  dsimp only at c2 c3 c4 c5 hl
  obtain ⟨g, cap, rfl, hgb, cj, fj⟩ := pool_at h j hjl
  dsimp only at cj fj
  have u1 := usedOf_at sz j hjl hj0
  rw [← hG.used] at u1
  have u2 := hG.le
  have u3 := hG.b1
  dsimp only at u1 u2 u3
  have f2 := known_free h.blk 2
  have f3 := known_free h.blk 3
  obtain ⟨m, hm⟩ : ∃ m, sz.length = m := ⟨_, rfl⟩
  obtain ⟨x, hx⟩ : ∃ x, sz.getD j 0 = x := ⟨_, rfl⟩
  rw [hx] at cj u1 hj0 ⊢
  dsimp only at HP
  rw [hm] at c4 hjl hl HP ⊢
  have jj : (j : Int) + 1 - 1 = (j : Int) := by omega
  have jl : (j : Int) < (m : Int) := by omega
  have hgb2 : ¬ b = g := fun e => hgb e.symm
  have HM := Lib.hid hm
  have us0 : 0 ≤ us := by omega
  obtain ⟨ct1, ct2⟩ := hct
  clear hc h hh hG hm hx
  go_enter Try.func17, Try.ntmps17
  go_wp2_with (first | (go_at_call 81; refine (none_made b true _ c0).mono ?_; rintro e w' ⟨rfl, rfl⟩) | (go_at_call 82; refine HC.out.mono ?_; rintro e w' ⟨rfl, rfl⟩))
  as_aux_lemma =>
    go_region
    go_upto_region 8 with (fail)
    generalize hw1 : World.drew _ = w1
    have HP1 : PoolIs w1 b ⟨bd, us - x, ct - 1, sz.set j (-1), fr⟩ (.slice (some ⟨g, 0, none⟩) m cap) fv := by
      rw [← hw1]; exact (((HP.out.setUsed (us - x)).setCount (ct - 1)).setSize HM.out j (-1)).drew
    have HT1 : Touch (Foot b (.slice (some ⟨g, 0, none⟩) m cap) fv) w w1 := by
      rw [← hw1]; exact ((((Touch.refl _ w).setCell (p := ⟨b, 2, none⟩) (.inl (.inl rfl)) _).setCell (p := ⟨b, 3, none⟩) (.inl (.inl rfl)) _).setCell (p := ⟨g, j, none⟩) (.inl (.inr (.inl rfl))) _).drew
    have hsz := HT1.size
    clear hw1 HC HP c0 c2 c3 c4 c5 cj fj f2 f3
    obtain ⟨_, _, _, _, _, c5⟩ := pool_cell HP1
    have hbs : b < w1.heap.size := (Array.getElem?_eq_some_iff.1 HP1.blk).1
    have hbf : some b ≠ fv.ownBlock := fun e => row_ne HP1.ownF HP1.blk (by decide) b e.symm rfl
    have hown := HP1.ownF
    dsimp only at hown
    have HPP := Lib.hid HP1
    have HTT := Lib.hid HT1
    clear HP1 HT1
    go_wp2_with (at_builtin; refine wpList_append_new Try.elemI64 rfl (by decide) w1 rfl _ _ rfl rfl hown 1 [.int .i64 ((j : Int) + 1)] rfl rfl (by decide) (by simp [Value.oneCell']) (by omega) (by omega) (Nat.zero_le _) (Nat.le_refl _) (Below.refl 0 w1) ?_; intro v1 w2 ho1 _ hg1 hm1; have hb2 := (hg1.block b hbs hbf).trans HPP.out.blk; have k5 := known_cell hb2 5; have z5 := known_free hb2 5; obtain ⟨g2, cap2, rfl⟩ := row_some ho1 (by omega); clear c5 hown)
    have hg2b : g2 ≠ b := row_ne ho1 hb2 (by decide) g2 rfl
    have hb3 := known_set hb2 5 (.slice (some ⟨g2, 0, none⟩) (fr.length + 1) cap2)
    have t23 : Touch (fun k => k = b) w2 (w2.setCell ⟨b, 5, none⟩ (.slice (some ⟨g2, 0, none⟩) (fr.length + 1) cap2)) := (Touch.refl (fun k => k = b) w2).setCell (p := ⟨b, 5, none⟩) (.inl rfl) _
    have ho3 := t23.row ho1 (fun k hk e => by simp [Value.ownBlock] at hk; omega)
    rw [show fr.map (Value.int .i64) ++ [Value.int .i64 ((j : Int) + 1)] = (fr ++ [(j : Int) + 1]).map (Value.int .i64) from by simp] at ho3
    have t12 : Touch (fun k => fv.ownBlock = some k) w1 w2 := (Touch.refl _ w1).grown hg1 (fun k hk => .inl hk)
    have hsv2 := t12.row HPP.out.own (fun k hk e => HPP.out.apart k hk e)
    have hsv3 := t23.row hsv2 (fun k hk e => row_ne HPP.out.own HPP.out.blk (by decide) k hk e)
    have hap := HPP.out.apart.moved HPP.out.own hm1
    generalize hw3 : w2.setCell ⟨b, 5, none⟩ (.slice (some ⟨g2, 0, none⟩) (fr.length + 1) cap2) = w3
    rw [hw3] at hb3 t23 ho3 hsv3
    have hbs3 : b < w3.heap.size := (Array.getElem?_eq_some_iff.1 hb3).1
    refine (up_any w3 b g2 fr.length cap2 _ (fun e => hg2b e.symm) (known_cell hb3 5) hbs3 ho3 (by omega)).mono ?_
    rintro e w4 ⟨rfl, ho4, t34⟩
    go_wp2_with fail
    go_ret
    refine ⟨rfl, .slice (some ⟨g2, 0, none⟩) (fr.length + 1) cap2, ⟨t34.obj hb3 (fun e => hg2b e.symm), ?_, ?_, hap⟩, ?_, ?_⟩
    · exact t34.row hsv3 (fun k hk e => hap k hk (by rw [e]; rfl))
    · rw [heapPush_len]; exact ho4
    · rcases hm1 with h | h
      · exact .inl h
      · exact .inr fun k hk => Nat.le_trans hsz (h k hk)
    · have q1 := HTT.out.trans t12 (fun k hk => .inl (.inr (.inr hk)))
      have q2 := q1.trans t23 (fun k hk => .inl (.inl hk))
      refine q2.trans t34 (fun k hk => ?_)
      subst hk
      rcases hm1 with h | h
      · exact .inl (.inr (.inr h.symm))
      · exact .inr (Nat.le_trans hsz (h k rfl))
end Go.Proofs.Ytmflapajjghpmaa
