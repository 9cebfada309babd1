/- Take of a pool with a free number, as walked. -/
import Derived.Test.YtmflapajjghpmaaPoolTake
import Derived.Test.YtmflapajjghpmaaPoolLeast
namespace Go.Proofs.Ytmflapajjghpmaa
open Go.RowKit

set_option maxRecDepth 100000 in
set_option maxHeartbeats 8000000 in
theorem take_old (b j n : Nat) (bd us ct : Int) (sz fr : List Int) (sv fv : Value) (size : Int) (w : World) (h : PoolIs w b ⟨bd, us, ct, sz, fr⟩ sv fv) (hs : ¬ size < 0) (hu : 0 ≤ us ∧ us ≤ bd ∧ bd ≤ 1073741824) (hf : ¬ bd - us < size) (hct : ct < 65536) (hct0 : 0 ≤ ct) (hl : sz.length ≤ 65536)
    (hn : fr.length = n + 1) (hn1 : n ≤ 1000000) (hj : j < sz.length) (hx : fr.getD 0 0 = (j : Int) + 1) :
    Calls Try.prog 19 #[.pointer (some ⟨b, 0, none⟩), .int .i64 size] w fun e w' => e = .returned (.tuple #[.int .i64 ((j : Int) + 1), .int .i64 0]) ∧ PoolStep w w' b sv fv ⟨bd, us + size, ct + 1, sz.set j size, heapPop fr⟩ := by
  obtain ⟨c0, c1, c2, c3, c4, c5⟩ := pool_cell h
  dsimp only at c1 c2 c3 c4 c5
  have f2 := known_free h.blk 2
  have f3 := known_free h.blk 3
  obtain ⟨u1, u2, u3⟩ := hu
  have d1 : decide (bd - us < size) = false := decide_eq_false hf
  have d2 : (ct == 65536) = false := beq_eq_false_iff_ne.2 (by omega)
  have hof := h.ownF
  dsimp only at hof
  obtain ⟨g, cap, rfl⟩ := row_some hof (by omega)
  rw [hn] at hof c5 ⊢
  have hbg : g ≠ b := row_ne hof h.blk (by decide) g rfl
  obtain ⟨gs, caps, rfl, hgs, _, _⟩ := pool_at h j hj
  dsimp only at c4 hgs ⊢
  obtain ⟨m, hm⟩ : ∃ m, sz.length = m := ⟨_, rfl⟩
  have HM := Lib.hid hm
  rw [hn] at h
  dsimp only at h
  rw [hm] at h c4 hj hl ⊢
  have HP := Lib.hid h
  have HN := Lib.hid hn
  have HX := Lib.hid hx
  have HOF := Lib.hid hof
  clear h hm hn hx hof
  go_enter Try.func19, Try.ntmps19
  go_wp2_with (go_at_call 81; refine (none_made b true _ c0).mono ?_; rintro e w' ⟨rfl, rfl⟩)
  as_aux_lemma =>
    go_quiet (fail)
    go_upto_region 10 with (fail)
    generalize hw1 : World.setCell (World.setCell _ _ _) _ _ = w1
    have HP1 : PoolIs w1 b ⟨bd, us + size, ct + 1, sz, fr⟩ (.slice (some ⟨gs, 0, none⟩) m caps) (.slice (some ⟨g, 0, none⟩) (n + 1) cap) := by
      rw [← hw1]; exact (((HP.out.drewN _).setUsed (us + size)).setCount (ct + 1))
    have HT1 : Touch (Foot b (.slice (some ⟨gs, 0, none⟩) m caps) (.slice (some ⟨g, 0, none⟩) (n + 1) cap)) w w1 := by
      rw [← hw1]; exact ((((Touch.refl _ w).drewN _).setCell (p := ⟨b, 2, none⟩) (.inl (.inl rfl)) _).setCell (p := ⟨b, 3, none⟩) (.inl (.inl rfl)) _)
    have hsz := HT1.size
    clear hw1 HP c0 c1 c2 c3 c4 c5 f2 f3
    have hrow1 := HP1.ownF
    dsimp only at hrow1
    rw [HN.out] at hrow1
    have hcall := least_any w1 b g n cap _ fr (fun e => hbg e.symm) HP1.blk rfl hrow1 hn1
    rw [HX.out] at hcall
    have HC := Lib.hid hcall
    have HPP := Lib.hid HP1
    have HTT := Lib.hid HT1
    clear HP1 HT1 hcall hrow1
    refine HC.out.mono ?_
    rintro e w2 ⟨rfl, hb2, ho2, t12⟩
    have hpop : (heapPop fr).length = n := by rw [heapPop_len, HN.out]; rfl
    have hap := HPP.out.apart
    have hsv2 := t12.row HPP.out.own (by
      intro k hk e
      rcases e with e | e
      · exact row_ne HPP.out.own HPP.out.blk (by decide) k hk e
      · exact hap k hk (by rw [e]; rfl))
    have HP2 : PoolIs w2 b ⟨bd, us + size, ct + 1, sz, heapPop fr⟩ (.slice (some ⟨gs, 0, none⟩) m caps) (.slice (some ⟨g, 0, none⟩) n cap) := ⟨hb2, hsv2, by dsimp only; rw [hpop]; exact ho2, hap⟩
    have hm2 := HM.out
    obtain ⟨_, _, _, _, c4, _⟩ := pool_cell HP2
    have ho4 := HP2.own
    dsimp only at c4 ho4
    rw [hm2] at ho4
    have f4 := ho4.frozenAt j
    obtain ⟨x, hx⟩ : ∃ x, sz.getD j 0 = x := ⟨_, rfl⟩
    have c6 := owns_cell ho4 j x (by rw [← hx]; exact getD_some _ _ (by omega))
    have HPQ := Lib.hid HP2
    have H12 := Lib.hid t12
    have jj : (j : Int) + 1 - 1 = (j : Int) := by omega
    have jl : (j : Int) < (m : Int) := by omega
    have hgs2 : ¬ b = gs := fun e => hgs e.symm
    clear HP2 t12 hsv2 ho2 hb2 hap hpop hx hm2 ho4 HC
    as_aux_lemma =>
      go_wp2_with fail
      go_ret2
      refine ⟨rfl, .slice (some ⟨gs, 0, none⟩) m caps, .slice (some ⟨g, 0, none⟩) n cap, HPQ.out.setSize HM.out j size, ?_, ?_⟩
      · rintro k (rfl | hk | hk)
        · exact .inl (.inl rfl)
        · exact .inl (.inr (.inl hk))
        · exact .inl (.inr (.inr hk))
      · have q1 := HTT.out.trans H12.out (fun k hk => by
          rcases hk with rfl | rfl
          · exact .inl (.inl rfl)
          · exact .inl (.inr (.inr rfl)))
        exact q1.setCell (p := ⟨gs, j, none⟩) (.inl (.inr (.inl rfl))) _
end Go.Proofs.Ytmflapajjghpmaa
