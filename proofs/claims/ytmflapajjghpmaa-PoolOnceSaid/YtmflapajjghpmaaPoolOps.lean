/- Size, Resize and Give of a pool, as walked. -/
import Derived.Test.YtmflapajjghpmaaPoolBase
namespace Go.Proofs.Ytmflapajjghpmaa
open Go.RowKit

theorem PoolIs.setUsed {w : World} {b : Nat} {st : PS} {sv fv : Value} (h : PoolIs w b st sv fv) (x : Int) : PoolIs (w.setCell ⟨b, 2, none⟩ (.int .i64 x)) b { st with used := x } sv fv :=
  ⟨known_set h.blk 2 _, Touch.row (S := fun k => k = b) ((Touch.refl (fun k => k = b) w).setCell (p := ⟨b, 2, none⟩) (.inl rfl) _) h.own (row_ne h.own h.blk (by decide)),
    Touch.row (S := fun k => k = b) ((Touch.refl (fun k => k = b) w).setCell (p := ⟨b, 2, none⟩) (.inl rfl) _) h.ownF (row_ne h.ownF h.blk (by decide)), h.apart⟩
theorem PoolIs.setCount {w : World} {b : Nat} {st : PS} {sv fv : Value} (h : PoolIs w b st sv fv) (x : Int) : PoolIs (w.setCell ⟨b, 3, none⟩ (.int .i64 x)) b { st with count := x } sv fv :=
  ⟨known_set h.blk 3 _, Touch.row (S := fun k => k = b) ((Touch.refl (fun k => k = b) w).setCell (p := ⟨b, 3, none⟩) (.inl rfl) _) h.own (row_ne h.own h.blk (by decide)),
    Touch.row (S := fun k => k = b) ((Touch.refl (fun k => k = b) w).setCell (p := ⟨b, 3, none⟩) (.inl rfl) _) h.ownF (row_ne h.ownF h.blk (by decide)), h.apart⟩
theorem PoolIs.setSize {w : World} {b g n cap : Nat} {st : PS} {fv : Value} (h : PoolIs w b st (.slice (some ⟨g, 0, none⟩) n cap) fv) (hn : st.sizes.length = n) (j : Nat) (x : Int) :
    PoolIs (w.setCell ⟨g, j, none⟩ (.int .i64 x)) b { st with sizes := st.sizes.set j x } (.slice (some ⟨g, 0, none⟩) n cap) fv := by
  subst hn
  have hgb : g ≠ b := row_ne h.own h.blk (by decide) g rfl
  refine ⟨known_other h.blk ⟨g, j, none⟩ hgb _, ?_, Touch.row (S := fun k => k = g) ((Touch.refl (fun k => k = g) w).setCell (p := ⟨g, j, none⟩) (.inl rfl) _) h.ownF (fun k hk e => h.apart g rfl (by rw [hk, e])), h.apart⟩
  have := owns_set h.own j x
  simpa using this
theorem PoolIs.drew {w : World} {b : Nat} {st : PS} {sv fv : Value} (h : PoolIs w b st sv fv) : PoolIs w.drew b st sv fv := ⟨h.blk, h.own, h.ownF, h.apart⟩
theorem PoolIs.drewN {w : World} {b : Nat} {st : PS} {sv fv : Value} (h : PoolIs w b st sv fv) (n : Nat) : PoolIs (w.drewN n) b st sv fv := ⟨h.blk, h.own, h.ownF, h.apart⟩

theorem hasP_parts {st : PS} {id : Int} (h : hasP st id = true) : ∃ j : Nat, id = (j : Int) + 1 ∧ (id - 1).toNat = j ∧ j < st.sizes.length ∧ 0 ≤ st.sizes.getD j 0 := by
  simp only [hasP, Bool.and_eq_true, decide_eq_true_eq] at h
  obtain ⟨⟨h1, h2⟩, h3⟩ := h
  exact ⟨(id - 1).toNat, by omega, rfl, by omega, h3⟩

/-- what the walk wants of an object's cell -/
theorem pool_at {w : World} {b : Nat} {st : PS} {sv fv : Value} (h : PoolIs w b st sv fv) (j : Nat) (hj : j < st.sizes.length) :
    ∃ g cap, sv = .slice (some ⟨g, 0, none⟩) st.sizes.length cap ∧ g ≠ b ∧ w.cell? ⟨g, j, none⟩ = some (.int .i64 (st.sizes.getD j 0)) ∧ w.frozen? ⟨g, j, none⟩ = false := by
  have hr := h.own
  obtain ⟨g, cap, hv⟩ := row_some hr (by omega)
  have hgb := row_ne hr h.blk (by decide) g (by rw [hv]; rfl)
  rw [hv] at hr
  exact ⟨g, cap, hv, hgb, owns_cell hr j _ (getD_some _ _ hj), hr.frozenAt j⟩

set_option maxHeartbeats 2000000 in
theorem size_any (b : Nat) (st : PS) (sv fv : Value) (id : Int) (w : World) (h : PoolIs w b st sv fv) (hl : st.sizes.length ≤ 65536) :
    Calls Try.prog 32 #[.pointer (some ⟨b, 0, none⟩), .int .i64 id] w fun e w' => e = .returned (.tuple #[.int .i64 (sizeP st id).1, .bool (sizeP st id).2]) ∧ w = w' := by
  obtain ⟨c0, _, _, _, c4, _⟩ := pool_cell h
  have hc := fun W h' => has_any b st sv fv id W h' hl
  unfold sizeP
  cases hh : hasP st id
  · rw [hh] at hc
    have HC := Lib.hid (hc w h)
    clear hc h hh
    go_enter Try.func32, Try.ntmps32
    go_wp2_with (first | (go_at_call 81; refine (none_made b true _ c0).mono ?_; rintro e w' ⟨rfl, rfl⟩) | (go_at_call 82; refine HC.out.mono ?_; rintro e w' ⟨rfl, rfl⟩))
    go_ret2
    exact ⟨rfl, rfl⟩
  · rw [hh] at hc
    obtain ⟨j, hid, hjn, hjl, _⟩ := hasP_parts hh
    obtain ⟨g, cap, rfl, _, cj, _⟩ := pool_at h j hjl
    have HC := Lib.hid (hc w h)
    rw [hjn]
    obtain ⟨m, hm⟩ : ∃ m, st.sizes.length = m := ⟨_, rfl⟩
    rw [hm] at c4 hjl hl
    obtain ⟨x, hx⟩ : ∃ x, st.sizes.getD j 0 = x := ⟨_, rfl⟩
    rw [hx] at cj
    rw [hx]
    subst hid
    have jj : (j : Int) + 1 - 1 = (j : Int) := by omega
    have jl : (j : Int) < (m : Int) := by omega
    clear hc h hh hm hx hjn
    go_enter Try.func32, Try.ntmps32
    go_wp2_with (first | (go_at_call 81; refine (none_made b true _ c0).mono ?_; rintro e w' ⟨rfl, rfl⟩) | (go_at_call 82; rw [hm] at HC; refine HC.out.mono ?_; rintro e w' ⟨rfl, rfl⟩) | (go_at_call 82; refine HC.out.mono ?_; rintro e w' ⟨rfl, rfl⟩))
    go_ret2
    exact ⟨rfl, rfl⟩
end Go.Proofs.Ytmflapajjghpmaa
