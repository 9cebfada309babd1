/- Two lists held against each other, as walked. -/
import Derived.Test.YtmflapajjghpmaaKit
import Derived.Test.YtmflapajjghpmaaProg
import Derived.Deep.QuietTactic
import Derived.BigQuiet
import Derived.WalkSmall
namespace Go.Proofs.Ytmflapajjghpmaa
open Go.RowKit

theorem reads_empty {k : IntKind} {w : World} {v : Value} {xs : List Int} (h : Reads k w v xs) (h0 : xs.length = 0) : ∃ ao cap, v = .slice ao 0 cap := by
  obtain ⟨_, ao, cap, hv, _⟩ := h
  exact ⟨ao, cap, by rw [hv, h0]⟩
theorem reads_some {k : IntKind} {w : World} {v : Value} {xs : List Int} (h : Reads k w v xs) (h0 : 0 < xs.length) : ∃ g off cap, v = .slice (some ⟨g, off, none⟩) xs.length cap ∧ g < w.heap.size ∧ ∀ i u, xs[i]? = some u → w.cell? ⟨g, off + i, none⟩ = some (.int k u) := by
  obtain ⟨_, ao, cap, hv, _, _, hc⟩ := h
  obtain ⟨g, off, ha, hx⟩ := hc 0 _ (List.getElem?_eq_getElem h0)
  refine ⟨g, off, cap, by rw [hv, ha], by have := World.block_lt_of_cell? w _ hx; simpa using this, fun i u hu => ?_⟩
  obtain ⟨g', off', ha', hx'⟩ := hc i u hu
  rw [ha] at ha'
  simp at ha'
  rw [ha'.1, ha'.2]; exact hx'

theorem lists_same {xs ys : List Int} (hl : xs.length = ys.length) (h : ∀ j, j < xs.length → xs[j]? = ys[j]?) : decide (xs = ys) = true := by
  refine decide_eq_true (List.ext_getElem? fun j => ?_)
  by_cases hj : j < xs.length
  · exact h j hj
  · rw [List.getElem?_eq_none (by omega), List.getElem?_eq_none (by omega)]

set_option maxHeartbeats 2000000 in
theorem sameInts_any (v1 v2 : Value) (xs ys : List Int) (w : World) (h1 : Reads .i64 w v1 xs) (h2 : Reads .i64 w v2 ys) : Calls Try.prog 42 #[v1, v2] w fun e w' => e = .returned (.bool (decide (xs = ys))) ∧ Below w.heap.size w w' := by
  have b1 := h1.1
  have b2 := h2.1
  by_cases hl : xs.length = ys.length
  · by_cases h0 : xs.length = 0
    · obtain ⟨ao, c1, rfl⟩ := reads_empty h1 h0
      obtain ⟨bo, c2, rfl⟩ := reads_empty h2 (by omega)
      have hx : decide (xs = ys) = true := lists_same hl (fun j hj => by omega)
      rw [hx]
      clear h1 h2 hl hx h0 b1 b2
      go_enter Try.func42, Try.ntmps42
      go_wp2
      go_rounds 2
      go_ret
      exact ⟨rfl, Below.refl _ _⟩
    · obtain ⟨g1, o1, c1, rfl, hg1, hc1⟩ := reads_some h1 (by omega)
      obtain ⟨g2, o2, c2, rfl, hg2, hc2⟩ := reads_some h2 (by omega)
      rw [← hl]
      obtain ⟨n, hn⟩ : ∃ n, xs.length = n := ⟨_, rfl⟩
      rw [hn] at b1 h0 ⊢
      have HL : Hid (xs.length = n ∧ ys.length = n) := ⟨hn, by omega⟩
      clear h1 h2 hl hn b2
      go_enter Try.func42, Try.ntmps42
      go_wp2_with fail
      go_loopw [5] (fun iv wr => ∃ k : Nat, k ≤ n ∧ iv = .int .i64 k ∧ Hid (∀ j, j < k → xs[j]? = ys[j]?) ∧ Below w.heap.size w wr) (fun iv _ => n - (intOf iv).toNat)
      case atStart => exact ⟨0, Nat.zero_le _, rfl, fun j h => absurd h (Nat.not_lt_zero j), Below.refl _ _⟩
      case round =>
        obtain ⟨k, hk, rfl, H, hbel⟩ := hrel
        by_cases hlt : k < n
        · obtain ⟨x, hx⟩ : ∃ x, xs[k]? = some x := ⟨_, List.getElem?_eq_getElem (by rw [HL.out.1]; exact hlt)⟩
          obtain ⟨y, hy⟩ : ∃ y, ys[k]? = some y := ⟨_, List.getElem?_eq_getElem (by rw [HL.out.2]; exact hlt)⟩
          have d1 := (hbel.cell (p := ⟨g1, o1 + k, none⟩) hg1).trans (hc1 k x hx)
          have d2 := (hbel.cell (p := ⟨g2, o2 + k, none⟩) hg2).trans (hc2 k y hy)
          have kl : (k : Int) < (n : Int) := by omega
          have HX : Hid (xs[k]? = some x ∧ ys[k]? = some y) := ⟨hx, hy⟩
          have HC : Hid ((∀ i u, xs[i]? = some u → w.cell? ⟨g1, o1 + i, none⟩ = some (.int .i64 u)) ∧ ∀ i u, ys[i]? = some u → w.cell? ⟨g2, o2 + i, none⟩ = some (.int .i64 u)) := ⟨hc1, hc2⟩
          clear hx hy hc1 hc2
          by_cases hxy : x = y
          · have he : ((x : Int) == y) = true := beq_iff_eq.2 hxy
            have HY := Lib.hid hxy; clear hxy
            go_wp2_with fail
            go_quiet (fail)
            go_wp2
            go_roundw
            case rel => exact ⟨k + 1, by omega, by go_num, fun j hj => if e : j = k then by subst e; rw [HX.out.1, HX.out.2, HY.out] else H j (by omega), below_drewN hbel _⟩
            case measure => simp [intOf]; omega
          · have he : ((x : Int) == y) = false := beq_eq_false_iff_ne.2 hxy
            go_wp2_with fail
            go_quiet (fail)
            go_wp2
            go_ret
            refine ⟨ret_bool ?_, below_drewN hbel _⟩
            symm
            refine decide_eq_false fun e => hxy ?_
            have := HX.out
            rw [e] at this
            exact Option.some.inj (this.1.symm.trans this.2)
        · go_wp2
          go_ret
          exact ⟨ret_bool (lists_same (by rw [HL.out.1, HL.out.2]) fun j hj => H.out j (by rw [HL.out.1] at hj; omega)).symm, hbel⟩
  · have hx : decide (xs = ys) = false := decide_eq_false fun e => hl (by rw [e])
    rw [hx]
    obtain ⟨_, ao, c1, rfl, _, _, _⟩ := h1
    obtain ⟨_, bo, c2, rfl, _, _, _⟩ := h2
    have hb : ((xs.length : Int) == (ys.length : Int)) = false := beq_eq_false_iff_ne.2 (by omega)
    clear hx hl
    go_enter Try.func42, Try.ntmps42
    go_wp2
    go_ret
    exact ⟨rfl, Below.refl _ _⟩

end Go.Proofs.Ytmflapajjghpmaa
