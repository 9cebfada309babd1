/- PoolOnce: the law's own list of sizes, plain; the pool beside a row of the law's. -/
import Derived.Test.YtmflapajjghpmaaPoolAwake
namespace Go.Proofs.Ytmflapajjghpmaa
open Go.RowKit

/-! ### plain -/
def locOf (l : List Int) : List Int := (-1) :: (l ++ List.replicate (201 - l.length) (-1))
theorem locOf_len {l : List Int} (h : l.length ≤ 201) : (locOf l).length = 202 := by unfold locOf; simp; omega
theorem locOf_at {l : List Int} {k : Nat} (hk : k < 201) : (locOf l).getD (k + 1) 0 = if k < l.length then l.getD k 0 else -1 := by
  unfold locOf
  simp only [List.getD, List.getElem?_cons_succ]
  by_cases h : k < l.length
  · rw [if_pos h, List.getElem?_append_left h]
  · rw [if_neg h, List.getElem?_append_right (by omega), List.getElem?_replicate, if_pos (by omega)]; rfl
theorem locOf_set {l : List Int} {j : Nat} (x : Int) (h : j < l.length) : locOf (l.set j x) = (locOf l).set (j + 1) x := by
  unfold locOf
  rw [List.set_cons_succ, List.set_append_left _ _ h, List.length_set]
theorem locOf_app {l : List Int} (x : Int) (h : l.length < 201) : locOf (l ++ [x]) = (locOf l).set (l.length + 1) x := by
  unfold locOf
  obtain ⟨q, hq⟩ : ∃ q, 201 - l.length = q + 1 := ⟨200 - l.length, by omega⟩
  rw [List.set_cons_succ, List.set_append_right _ _ (Nat.le_refl _), Nat.sub_self, hq, List.length_append]
  simp only [List.length_cons, List.length_nil, List.replicate_succ, List.set_cons_zero, List.append_assoc, List.singleton_append]
  congr 3
  congr 1
  omega
theorem has_loc {st : PS} (hl : st.sizes.length ≤ 201) {k : Nat} (hk : k < 201) : hasP st ((k : Int) + 1) = decide (0 ≤ (locOf st.sizes).getD (k + 1) 0) := by
  rw [locOf_at hk]
  unfold hasP
  rw [show ((k : Int) + 1 - 1).toNat = k from by omega, decide_eq_true (show (1 : Int) ≤ (k : Int) + 1 by omega)]
  by_cases h : k < st.sizes.length
  · rw [if_pos h, decide_eq_true (show (k : Int) + 1 ≤ st.sizes.length by omega)]; simp
  · rw [if_neg h, decide_eq_false (show ¬ (k : Int) + 1 ≤ st.sizes.length by omega)]; simp
theorem give_loc {st : PS} (hl : st.sizes.length ≤ 201) {k : Nat} (hk : k < 201) (h : 0 ≤ (locOf st.sizes).getD (k + 1) 0) :
    ∃ st', giveP st ((k : Int) + 1) = (st', 0) ∧ locOf st'.sizes = (locOf st.sizes).set (k + 1) (-1) ∧ st'.used = st.used - (locOf st.sizes).getD (k + 1) 0 ∧ st'.bound = st.bound ∧ st'.sizes.length = st.sizes.length := by
  have hh := has_loc hl hk
  rw [decide_eq_true h] at hh
  have hlt : k < st.sizes.length := by
    rcases Nat.lt_or_ge k st.sizes.length with h1 | h1
    · exact h1
    · rw [locOf_at hk, if_neg (by omega)] at h; omega
  have e1 : ((k : Int) + 1 - 1).toNat = k := by omega
  refine ⟨⟨st.bound, st.used - st.sizes.getD k 0, st.count - 1, st.sizes.set k (-1), heapPush st.free ((k : Int) + 1)⟩, ?_, ?_, ?_, rfl, ?_⟩
  · unfold giveP
    rw [if_pos hh, e1]
  · exact locOf_set _ hlt
  · rw [locOf_at hk, if_pos hlt]
  · dsimp only; rw [List.length_set]
theorem give_none {st : PS} (hl : st.sizes.length ≤ 201) {k : Nat} (hk : k < 201) (h : ¬ 0 ≤ (locOf st.sizes).getD (k + 1) 0) : giveP st ((k : Int) + 1) = (st, 2) := by
  have hh := has_loc hl hk
  rw [decide_eq_false h] at hh
  unfold giveP; rw [if_neg (by rw [hh]; decide)]
theorem resize_no {st : PS} (hl : st.sizes.length ≤ 201) {k : Nat} (hk : k < 201) (h : ¬ 0 ≤ (locOf st.sizes).getD (k + 1) 0) (s : Int) : resizeP st ((k : Int) + 1) s = (st, 2) := by
  have hh := has_loc hl hk
  rw [decide_eq_false h] at hh
  unfold resizeP; rw [if_pos (.inl hh)]
theorem resize_loc {st : PS} (hl : st.sizes.length ≤ 201) {k : Nat} (hk : k < 201) (h : 0 ≤ (locOf st.sizes).getD (k + 1) 0) {s : Int} (hs : 0 ≤ s) :
    (st.used - (locOf st.sizes).getD (k + 1) 0 + s ≤ st.bound ∧ ∃ st', resizeP st ((k : Int) + 1) s = (st', 0) ∧ locOf st'.sizes = (locOf st.sizes).set (k + 1) s ∧ st'.used = st.used - (locOf st.sizes).getD (k + 1) 0 + s ∧ st'.bound = st.bound ∧ st'.sizes.length = st.sizes.length) ∨
    (¬ st.used - (locOf st.sizes).getD (k + 1) 0 + s ≤ st.bound ∧ resizeP st ((k : Int) + 1) s = (st, 5)) := by
  have hh := has_loc hl hk
  rw [decide_eq_true h] at hh
  have hlt : k < st.sizes.length := by
    rcases Nat.lt_or_ge k st.sizes.length with h1 | h1
    · exact h1
    · rw [locOf_at hk, if_neg (by omega)] at h; omega
  have hv : (locOf st.sizes).getD (k + 1) 0 = st.sizes.getD k 0 := by rw [locOf_at hk, if_pos hlt]
  rw [hv]
  have e1 : ((k : Int) + 1 - 1).toNat = k := by omega
  have h0 : ¬ (hasP st ((k : Int) + 1) = false ∨ s < 0) := by
    rintro (h | h)
    · rw [hh] at h; cases h
    · omega
  by_cases hb : st.used - st.sizes.getD k 0 + s ≤ st.bound
  · left
    refine ⟨hb, ⟨st.bound, st.used + (s - st.sizes.getD k 0), st.count, st.sizes.set k s, st.free⟩, ?_, ?_, ?_, rfl, ?_⟩
    · unfold resizeP
      rw [if_neg h0, e1, if_neg (by omega)]
    · exact locOf_set _ hlt
    · dsimp only; omega
    · dsimp only; rw [List.length_set]
  · right
    refine ⟨hb, ?_⟩
    unfold resizeP
    rw [if_neg h0, e1, if_pos (by omega)]
/-- what a take comes to: the least number whose size is none -/
theorem take_loc {st : PS} (hG : Good st) (hl : st.sizes.length ≤ 200) {s : Int} (hs : 0 ≤ s) : ∃ m : Nat, m < 201 ∧ (∀ i, i < m → 0 ≤ (locOf st.sizes).getD (i + 1) 0) ∧ (locOf st.sizes).getD (m + 1) 0 < 0 ∧
    ((st.used + s ≤ st.bound ∧ ∃ st', takeP st s = (st', (m : Int) + 1, 0) ∧ locOf st'.sizes = (locOf st.sizes).set (m + 1) s ∧ st'.used = st.used + s ∧ st'.bound = st.bound ∧ st'.sizes.length ≤ st.sizes.length + 1) ∨
    (¬ st.used + s ≤ st.bound ∧ takeP st s = (st, 0, 5))) := by
  have hc := hG.cnt
  have hcn : ¬ st.count = 65536 := by omega
  have hs0 : ¬ s < 0 := by omega
  by_cases hf : st.free.length = 0
  · have hff : freeFrom st.sizes 0 = [] := List.eq_nil_of_length_eq_zero (by rw [← hG.free.length_eq]; exact hf)
    refine ⟨st.sizes.length, by omega, fun i hi => ?_, ?_, ?_⟩
    · rw [locOf_at (by omega), if_pos hi]
      rcases Int.lt_or_le (st.sizes.getD i 0) 0 with h | h
      · have := (free_mem st.sizes 0 (0 + i + 1)).2 ⟨i, hi, h, by omega⟩
        rw [hff] at this; cases this
      · exact h
    · rw [locOf_at (by omega), if_neg (by omega)]; decide
    · by_cases hb : st.used + s ≤ st.bound
      · left
        refine ⟨hb, ⟨st.bound, st.used + s, st.count + 1, st.sizes ++ [s], st.free⟩, ?_, ?_, rfl, rfl, ?_⟩
        · unfold takeP
          rw [if_neg hs0, if_neg (by rintro (h | h); omega; exact hcn h), if_pos hf]
        · exact locOf_app _ (by omega)
        · simp
      · right
        refine ⟨hb, ?_⟩
        unfold takeP
        rw [if_neg hs0, if_pos (.inl (by omega))]
  · obtain ⟨m, hm, hml, hmn, hmin⟩ := hG.top (by omega)
    refine ⟨m, by omega, fun i hi => ?_, ?_, ?_⟩
    · rw [locOf_at (by omega), if_pos (by omega)]
      rcases Int.lt_or_le (st.sizes.getD i 0) 0 with h | h
      · have := hmin _ ((free_mem st.sizes 0 (0 + i + 1)).2 ⟨i, by omega, h, by omega⟩)
        omega
      · exact h
    · rw [locOf_at (by omega), if_pos hml]; exact hmn
    · by_cases hb : st.used + s ≤ st.bound
      · left
        refine ⟨hb, ⟨st.bound, st.used + s, st.count + 1, st.sizes.set m s, heapPop st.free⟩, ?_, ?_, rfl, rfl, ?_⟩
        · unfold takeP
          rw [if_neg hs0, if_neg (by rintro (h | h); omega; exact hcn h), if_neg hf, hm, show ((m : Int) + 1 - 1).toNat = m from by omega]
        · exact locOf_set _ hml
        · simp
      · right
        refine ⟨hb, ?_⟩
        unfold takeP
        rw [if_neg hs0, if_pos (.inl (by omega))]

theorem loc_le {st : PS} (hG : Good st) {k : Nat} (hk : k < 201) (h : 0 ≤ (locOf st.sizes).getD (k + 1) 0) : (locOf st.sizes).getD (k + 1) 0 ≤ st.used := by
  rw [locOf_at hk] at h ⊢
  by_cases hlt : k < st.sizes.length
  · rw [if_pos hlt] at h ⊢
    rw [hG.used]; exact usedOf_at _ _ hlt h
  · rw [if_neg hlt] at h; omega

/-! ### the pool beside a row -/
structure PoolWith (B g : Nat) (w0 w : World) (b : Nat) (st : PS) (L : List Int) : Prop where
  ex : ∃ sv fv, PoolIs w b st sv fv ∧ ∀ k, Foot b sv fv k → B ≤ k ∧ k ≠ g
  good : Good st
  below : Below B w0 w
  size : B ≤ w.heap.size
  gB : B ≤ g
  row : w.heap[g]? = some (.cells ((L.map (Value.int .i64)).toArray) 3 (0, 0))
theorem PoolWith.glt {B g b : Nat} {w0 w : World} {st : PS} {L : List Int} (h : PoolWith B g w0 w b st L) : g < w.heap.size := (Array.getElem?_eq_some_iff.1 h.row).1
theorem PoolWith.later {B g b : Nat} {w0 w w' : World} {st : PS} {L : List Int} (h : PoolWith B g w0 w b st L) (hb : Below w.heap.size w w') : PoolWith B g w0 w' b st L := by
  obtain ⟨sv, fv, h1, h2⟩ := h.ex
  exact ⟨⟨sv, fv, h1.same ((Touch.refl _ w).below hb), h2⟩, h.good, h.below.trans (hb.mono h.size), Nat.le_trans h.size hb.size, h.gB, (hb.block g h.glt).trans h.row⟩
theorem PoolWith.drewN {B g b : Nat} {w0 w : World} {st : PS} {L : List Int} (h : PoolWith B g w0 w b st L) (q : Nat) : PoolWith B g w0 (w.drewN q) b st L := h.later ⟨rfl, rfl, rfl, Nat.le_refl _, fun _ _ => rfl⟩
theorem PoolWith.next {B g b : Nat} {w0 w w' : World} {st st' : PS} {sv fv : Value} {L : List Int} (h0 : PoolWith B g w0 w b st L) (hf : ∀ k, Foot b sv fv k → B ≤ k ∧ k ≠ g) (hs : PoolStep w w' b sv fv st') (hG : Good st') : PoolWith B g w0 w' b st' L := by
  obtain ⟨sv', fv', h1, h2, ht⟩ := hs
  have hg := h0.glt
  refine ⟨⟨sv', fv', h1, fun k hk => ?_⟩, hG, h0.below.trans (ht.toBelow h0.size fun k hk => (hf k hk).1), Nat.le_trans h0.size ht.size, h0.gB, ht.obj h0.row fun h => (hf g h).2 rfl⟩
  rcases h2 k hk with h | h
  · exact hf k h
  · have := h0.size
    exact ⟨by omega, by omega⟩
theorem PoolWith.at {B g b : Nat} {w0 w : World} {st : PS} {L : List Int} (h : PoolWith B g w0 w b st L) {i : Nat} (hi : i < L.length) : w.cell? ⟨g, i, none⟩ = some (.int .i64 (L.getD i 0)) := by
  rw [known_cell h.row i, List.getElem?_toArray]
  exact map_at L .i64 i hi
theorem PoolWith.write {B g b : Nat} {w0 w : World} {st : PS} {L : List Int} (h : PoolWith B g w0 w b st L) (i : Nat) (x : Int) : PoolWith B g w0 (w.setCell ⟨g, i, none⟩ (.int .i64 x)) b st (L.set i x) := by
  obtain ⟨sv, fv, h1, h2⟩ := h.ex
  have ht : Touch (fun k => k = g) w (w.setCell ⟨g, i, none⟩ (.int .i64 x)) := (Touch.refl (fun k => k = g) w).setCell (p := ⟨g, i, none⟩) (.inl rfl) _
  refine ⟨⟨sv, fv, h1.later ht fun k hk e => (h2 k hk).2 e, h2⟩, h.good, h.below.trans (ht.toBelow h.size fun k hk => by rw [hk]; exact h.gB), Nat.le_trans h.size ht.size, h.gB, ?_⟩
  rw [known_set h.row i, List.map_set]
  simp
theorem take_w {B g b : Nat} {w0 w : World} {st : PS} {L : List Int} (h : PoolWith B g w0 w b st L) (size : Int) :
    Calls Try.prog 19 #[.pointer (some ⟨b, 0, none⟩), .int .i64 size] w fun e w' => e = .returned (.tuple #[.int .i64 (takeP st size).2.1, .int .i64 (takeP st size).2.2]) ∧ PoolWith B g w0 w' b (takeP st size).1 L := by
  obtain ⟨sv, fv, h1, h2⟩ := h.ex
  refine (take_any b st sv fv size w h1 h.good).mono ?_
  rintro e w' ⟨rfl, hs⟩
  exact ⟨rfl, h.next h2 hs (h.good.take size)⟩
theorem give_w {B g b : Nat} {w0 w : World} {st : PS} {L : List Int} (h : PoolWith B g w0 w b st L) (id : Int) :
    Calls Try.prog 17 #[.pointer (some ⟨b, 0, none⟩), .int .i64 id] w fun e w' => e = .returned (.int .i64 (giveP st id).2) ∧ PoolWith B g w0 w' b (giveP st id).1 L := by
  obtain ⟨sv, fv, h1, h2⟩ := h.ex
  refine (give_any b st sv fv id w h1 h.good).mono ?_
  rintro e w' ⟨rfl, hs⟩
  exact ⟨rfl, h.next h2 hs (h.good.give id)⟩
theorem resize_w {B g b : Nat} {w0 w : World} {st : PS} {L : List Int} (h : PoolWith B g w0 w b st L) (id size : Int) :
    Calls Try.prog 18 #[.pointer (some ⟨b, 0, none⟩), .int .i64 id, .int .i64 size] w fun e w' => e = .returned (.int .i64 (resizeP st id size).2) ∧ PoolWith B g w0 w' b (resizeP st id size).1 L := by
  obtain ⟨sv, fv, h1, h2⟩ := h.ex
  refine (resize_step b st sv fv id size w h1 h.good).mono ?_
  rintro e w' ⟨rfl, hs⟩
  exact ⟨rfl, h.next h2 hs (h.good.resize id size)⟩
theorem used_w {B g b : Nat} {w0 w : World} {st : PS} {L : List Int} (h : PoolWith B g w0 w b st L) :
    Calls Try.prog 20 #[.pointer (some ⟨b, 0, none⟩)] w fun e w' => e = .returned (.int .i64 st.used) ∧ w = w' := by
  obtain ⟨sv, fv, h1, h2⟩ := h.ex
  exact used_any b st sv fv w h1
end Go.Proofs.Ytmflapajjghpmaa
