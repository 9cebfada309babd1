/- Resize of a pool, as walked. -/
import Derived.Test.YtmflapajjghpmaaPoolOps
namespace Go.Proofs.Ytmflapajjghpmaa
open Go.RowKit

set_option maxRecDepth 100000 in
set_option maxHeartbeats 8000000 in
theorem resize_any (b : Nat) (st : PS) (sv fv : Value) (id size : Int) (w : World) (h : PoolIs w b st sv fv) (hG : Good st) :
    Calls Try.prog 18 #[.pointer (some ⟨b, 0, none⟩), .int .i64 id, .int .i64 size] w fun e w' => e = .returned (.int .i64 (resizeP st id size).2) ∧ PoolIs w' b (resizeP st id size).1 sv fv ∧ Touch (Foot b sv fv) w w' := by
  obtain ⟨bd, us, ct, sz, fr⟩ := st
  obtain ⟨c0, c1, c2, _, c4, _⟩ := pool_cell h
  have hl := hG.len
  dsimp only at c1 c2 c4 hl
  have hc := has_any b ⟨bd, us, ct, sz, fr⟩ sv fv id w h hl
  unfold resizeP
  cases hh : hasP ⟨bd, us, ct, sz, fr⟩ id
  · rw [if_pos (.inl rfl)]
    rw [hh] at hc
    have HC := Lib.hid hc
    have HP := Lib.hid h
    clear hc h hh hG
    go_enter Try.func18, Try.ntmps18
    go_wp2_with (first | (go_at_call 81; refine (none_made b true _ c0).mono ?_; rintro e w' ⟨rfl, rfl⟩) | (go_at_call 82; refine HC.out.mono ?_; rintro e w' ⟨rfl, rfl⟩))
    go_ret
    exact ⟨rfl, HP.out, Touch.refl _ _⟩
  rw [hh] at hc
  have HC := Lib.hid hc
  have HP := Lib.hid h
  by_cases hs : size < 0
  · rw [if_pos (.inr hs)]
    clear hc h hh hG
    go_enter Try.func18, Try.ntmps18
    go_wp2_with (first | (go_at_call 81; refine (none_made b true _ c0).mono ?_; rintro e w' ⟨rfl, rfl⟩) | (go_at_call 82; refine HC.out.mono ?_; rintro e w' ⟨rfl, rfl⟩))
    go_ret
    exact ⟨rfl, HP.out, Touch.refl _ _⟩
  have e1 : ¬ (true = false ∨ size < 0) := fun h => h.elim (by decide) hs
  rw [if_neg e1]
  obtain ⟨j, rfl, hjn, hjl, hj0⟩ := hasP_parts hh
  obtain ⟨g, cap, rfl, hgb, cj, fj⟩ := pool_at h j hjl
  dsimp only at hjl hj0 cj fj
  have u1 := usedOf_at sz j hjl hj0
  rw [← hG.used] at u1
  have u2 := hG.le
  have u3 := hG.b1
  dsimp only at u1 u2 u3
  have f2 := known_free h.blk 2
  rw [hjn]
  dsimp only
  obtain ⟨m, hm⟩ : ∃ m, sz.length = m := ⟨_, rfl⟩
  obtain ⟨x, hx⟩ : ∃ x, sz.getD j 0 = x := ⟨_, rfl⟩
  rw [hx] at cj u1 hj0 ⊢
  dsimp only at HP
  rw [hm] at c4 hjl hl HP ⊢
  have jj : (j : Int) + 1 - 1 = (j : Int) := by omega
  have jl : (j : Int) < (m : Int) := by omega
  have hgb2 : ¬ b = g := fun e => hgb e.symm
  have HM := Lib.hid hm
  have hst : ¬ size < 0 := hs
  have us0 : 0 ≤ us := by omega
  clear hc h hh hG e1 hjn hm hx
  by_cases hbig : bd - us + x < size
  · rw [if_pos hbig]
    have db : decide (bd - us + x < size) = true := decide_eq_true hbig
    go_enter Try.func18, Try.ntmps18
    go_wp2_with (first | (go_at_call 81; refine (none_made b true _ c0).mono ?_; rintro e w' ⟨rfl, rfl⟩) | (go_at_call 82; refine HC.out.mono ?_; rintro e w' ⟨rfl, rfl⟩))
    go_quiet (fail)
    go_wp2
    go_ret
    exact ⟨rfl, HP.out.drewN _, (Touch.refl _ _).drewN _⟩
  · rw [if_neg hbig]
    have db : decide (bd - us + x < size) = false := decide_eq_false hbig
    go_enter Try.func18, Try.ntmps18
    go_wp2_with (first | (go_at_call 81; refine (none_made b true _ c0).mono ?_; rintro e w' ⟨rfl, rfl⟩) | (go_at_call 82; refine HC.out.mono ?_; rintro e w' ⟨rfl, rfl⟩))
    go_quiet (fail)
    go_wp2_with fail
    generalize hw1 : World.drewN _ _ = w1
    have HP1 : Hid (PoolIs w1 b ⟨bd, us, ct, sz, fr⟩ (.slice (some ⟨g, 0, none⟩) m cap) fv) := by show PoolIs _ _ _ _ _; rw [← hw1]; exact HP.out.drewN _
    have HT1 : Hid (Touch (Foot b (.slice (some ⟨g, 0, none⟩) m cap) fv) w w1) := by show Touch _ _ _; rw [← hw1]; exact (Touch.refl _ _).drewN _
    have d2 : w1.cell? ⟨b, 2, none⟩ = some (.int .i64 us) := by rw [← hw1]; exact c2
    have d4 : w1.cell? ⟨b, 4, none⟩ = some (.slice (some ⟨g, 0, none⟩) m cap) := by rw [← hw1]; exact c4
    have dj : w1.cell? ⟨g, j, none⟩ = some (.int .i64 x) := by rw [← hw1]; exact cj
    have g2 : w1.frozen? ⟨b, 2, none⟩ = false := by rw [← hw1]; exact f2
    have gj : w1.frozen? ⟨g, j, none⟩ = false := by rw [← hw1]; exact fj
    clear hw1 c0 c1 c2 c4 cj f2 fj HP
    as_aux_lemma =>
      go_region
      go_wp2
      go_ret
      refine ⟨rfl, ?_, ?_⟩
      · exact ((HP1.out.setUsed (us + (size - x))).setSize HM.out j size).drew
      · exact ((HT1.out.setCell (p := ⟨b, 2, none⟩) (.inl (.inl rfl)) _).setCell (p := ⟨g, j, none⟩) (.inl (.inr (.inl rfl))) _).drew
end Go.Proofs.Ytmflapajjghpmaa
