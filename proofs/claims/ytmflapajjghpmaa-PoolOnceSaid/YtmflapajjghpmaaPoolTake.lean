/- Take of a pool, as walked. -/
import Derived.Test.YtmflapajjghpmaaPoolOps
import Derived.Test.YtmflapajjghpmaaElems
import Derived.Deep.Cut
import Derived.Deep.CutBlock
namespace Go.Proofs.Ytmflapajjghpmaa
open Go.RowKit

/-- what a call that changes a pool leaves -/
def PoolStep (w w' : World) (b : Nat) (sv fv : Value) (st' : PS) : Prop :=
  ∃ sv' fv', PoolIs w' b st' sv' fv' ∧ (∀ k, Foot b sv' fv' k → Foot b sv fv k ∨ w.heap.size ≤ k) ∧ Touch (Foot b sv fv) w w'

set_option maxRecDepth 100000 in
set_option maxHeartbeats 8000000 in
theorem take_neg (b : Nat) (bd us ct : Int) (sz fr : List Int) (sv fv : Value) (size : Int) (w : World) (h : PoolIs w b ⟨bd, us, ct, sz, fr⟩ sv fv) (hs : size < 0) :
    Calls Try.prog 19 #[.pointer (some ⟨b, 0, none⟩), .int .i64 size] w fun e w' => e = .returned (.tuple #[.int .i64 0, .int .i64 2]) ∧ w = w' := by
  obtain ⟨c0, _, _, _, _, _⟩ := pool_cell h
  clear h
  go_enter Try.func19, Try.ntmps19
  go_wp2_with (go_at_call 81; refine (none_made b true _ c0).mono ?_; rintro e w' ⟨rfl, rfl⟩)
  go_ret2
  exact ⟨rfl, rfl⟩

set_option maxRecDepth 100000 in
set_option maxHeartbeats 8000000 in
theorem take_full (b : Nat) (bd us ct : Int) (sz fr : List Int) (sv fv : Value) (size : Int) (w : World) (h : PoolIs w b ⟨bd, us, ct, sz, fr⟩ sv fv) (hs : ¬ size < 0) (hu : 0 ≤ us ∧ us ≤ bd ∧ bd ≤ 1073741824) (hf : bd - us < size ∨ ct = 65536) :
    Calls Try.prog 19 #[.pointer (some ⟨b, 0, none⟩), .int .i64 size] w fun e w' => e = .returned (.tuple #[.int .i64 0, .int .i64 5]) ∧ ∃ q, w' = w.drewN q := by
  obtain ⟨c0, c1, c2, c3, c4, c5⟩ := pool_cell h
  dsimp only at c1 c2 c3 c4 c5
  clear h
  obtain ⟨u1, u2, u3⟩ := hu
  by_cases hb : bd - us < size
  · have d1 : decide (bd - us < size) = true := decide_eq_true hb
    clear hf
    go_enter Try.func19, Try.ntmps19
    go_wp2_with (go_at_call 81; refine (none_made b true _ c0).mono ?_; rintro e w' ⟨rfl, rfl⟩)
    go_quiet (fail)
    go_wp2
    go_ret2
    exact ⟨rfl, _, rfl⟩
  · have d1 : decide (bd - us < size) = false := decide_eq_false hb
    have d2 : (ct == 65536) = true := by
      rcases hf with h | h
      · exact absurd h hb
      · simp [h]
    clear hf
    go_enter Try.func19, Try.ntmps19
    go_wp2_with (go_at_call 81; refine (none_made b true _ c0).mono ?_; rintro e w' ⟨rfl, rfl⟩)
    go_quiet (fail)
    go_wp2
    go_ret2
    exact ⟨rfl, _, rfl⟩

set_option maxRecDepth 100000 in
set_option maxHeartbeats 8000000 in
theorem take_new (b : Nat) (bd us ct : Int) (sz : List Int) (sv fv : Value) (size : Int) (w : World) (h : PoolIs w b ⟨bd, us, ct, sz, []⟩ sv fv) (hs : ¬ size < 0) (hu : 0 ≤ us ∧ us ≤ bd ∧ bd ≤ 1073741824) (hf : ¬ bd - us < size) (hct : ct < 65536) (hct0 : 0 ≤ ct) (hl : sz.length ≤ 65536) :
    Calls Try.prog 19 #[.pointer (some ⟨b, 0, none⟩), .int .i64 size] w fun e w' => e = .returned (.tuple #[.int .i64 (sz.length + 1), .int .i64 0]) ∧ PoolStep w w' b sv fv ⟨bd, us + size, ct + 1, sz ++ [size], []⟩ := by
  obtain ⟨c0, c1, c2, c3, c4, c5⟩ := pool_cell h
  dsimp only at c1 c2 c3 c4 c5
  have f2 := known_free h.blk 2
  have f3 := known_free h.blk 3
  obtain ⟨u1, u2, u3⟩ := hu
  have d1 : decide (bd - us < size) = false := decide_eq_false hf
  have d2 : (ct == 65536) = false := beq_eq_false_iff_ne.2 (by omega)
  obtain ⟨ao, cap, rfl⟩ : ∃ ao cap, fv = .slice ao 0 cap := by
    rcases h.ownF.2 with ⟨rfl, _⟩ | ⟨g, cap, _, rfl, _⟩
    · exact ⟨none, 0, rfl⟩
    · exact ⟨_, cap, rfl⟩
  have HP := Lib.hid h
  clear h
  go_enter Try.func19, Try.ntmps19
  go_wp2_with (go_at_call 81; refine (none_made b true _ c0).mono ?_; rintro e w' ⟨rfl, rfl⟩)
  as_aux_lemma =>
    go_quiet (fail)
    go_upto_region 10 with (fail)
    generalize hw1 : World.setCell (World.setCell _ _ _) _ _ = w1
    have HP1 : PoolIs w1 b ⟨bd, us + size, ct + 1, sz, []⟩ sv (.slice ao 0 cap) := by
      rw [← hw1]; exact (((HP.out.drewN _).setUsed (us + size)).setCount (ct + 1))
    have HT1 : Touch (Foot b sv (.slice ao 0 cap)) w w1 := by
      rw [← hw1]; exact ((((Touch.refl _ w).drewN _).setCell (p := ⟨b, 2, none⟩) (.inl (.inl rfl)) _).setCell (p := ⟨b, 3, none⟩) (.inl (.inl rfl)) _)
    have hsz := HT1.size
    clear hw1 HP c0 c1 c2 c3 c4 c5 f2 f3
    obtain ⟨_, _, _, _, c4, _⟩ := pool_cell HP1
    have hbs : b < w1.heap.size := (Array.getElem?_eq_some_iff.1 HP1.blk).1
    have hbf : some b ≠ sv.ownBlock := fun e => row_ne HP1.own HP1.blk (by decide) b e.symm rfl
    have hown := HP1.own
    dsimp only at hown
    have HPP := Lib.hid HP1
    have HTT := Lib.hid HT1
    clear HP1 HT1
    go_wp2_with (at_builtin; refine wpList_append_new Try.elemI64 rfl (by decide) w1 rfl _ _ rfl rfl hown 1 [.int .i64 size] rfl rfl (by decide) (by simp [Value.oneCell']) (by omega) (by omega) (Nat.zero_le _) (Nat.le_refl _) (Below.refl 0 w1) ?_; intro v1 w2 ho1 _ hg1 hm1; have hb2 := (hg1.block b hbs hbf).trans HPP.out.blk; have k4 := known_cell hb2 4; have z4 := known_free hb2 4; obtain ⟨g2, cap2, rfl⟩ := row_some ho1 (by omega); clear c4 hown)
    go_ret2
    have hg2b : g2 ≠ b := row_ne ho1 hb2 (by decide) g2 rfl
    have hb3 := known_set hb2 4 (.slice (some ⟨g2, 0, none⟩) (sz.length + 1) cap2)
    have t23 : Touch (fun k => k = b) w2 (w2.setCell ⟨b, 4, none⟩ (.slice (some ⟨g2, 0, none⟩) (sz.length + 1) cap2)) := (Touch.refl (fun k => k = b) w2).setCell (p := ⟨b, 4, none⟩) (.inl rfl) _
    have ho3 := t23.row ho1 (fun k hk e => by simp [Value.ownBlock] at hk; omega)
    rw [show sz.map (Value.int .i64) ++ [Value.int .i64 size] = (sz ++ [size]).map (Value.int .i64) from by simp] at ho3
    have t12 : Touch (fun k => sv.ownBlock = some k) w1 w2 := (Touch.refl _ w1).grown hg1 (fun k hk => .inl hk)
    have hap : RowsApart (.slice (some ⟨g2, 0, none⟩) (sz.length + 1) cap2) (.slice ao 0 cap) := (HPP.out.apart.symm.moved HPP.out.ownF hm1).symm
    have hfv2 := t12.row HPP.out.ownF (fun k hk e => HPP.out.apart k e hk)
    have hfv3 := t23.row hfv2 (fun k hk e => row_ne HPP.out.ownF HPP.out.blk (by decide) k hk e)
    refine ⟨by go_num, .slice (some ⟨g2, 0, none⟩) (sz.length + 1) cap2, .slice ao 0 cap, ⟨hb3, ?_, hfv3, hap⟩, ?_, ?_⟩
    · simpa using ho3
    · rintro k (rfl | hk | hk)
      · exact .inl (.inl rfl)
      · rcases hm1 with h | h
        · exact .inl (.inr (.inl (h ▸ hk)))
        · exact .inr (Nat.le_trans hsz (h k hk))
      · exact .inl (.inr (.inr hk))
    · have q1 := HTT.out.trans t12 (fun k hk => .inl (.inr (.inl hk)))
      exact q1.trans t23 (fun k hk => .inl (.inl hk))
end Go.Proofs.Ytmflapajjghpmaa
