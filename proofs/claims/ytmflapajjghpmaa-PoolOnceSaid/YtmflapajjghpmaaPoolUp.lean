/- (*Pool).up, as walked: the list is sifted up. -/
import Derived.Test.YtmflapajjghpmaaProg
import Derived.Test.YtmflapajjghpmaaKit2
import Derived.Test.YtmflapajjghpmaaHeapPlain
import Derived.Deep.QuietTactic
import Derived.BigQuiet
import Derived.BigRegion
import Derived.Deep.LoopGhost
namespace Go.Proofs.Ytmflapajjghpmaa
open Go.RowKit

theorem getD_some (l : List Int) (i : Nat) (h : i < l.length) : l[i]? = some (l.getD i 0) := by simp [List.getD, h]

set_option maxRecDepth 100000 in
set_option maxHeartbeats 4000000 in
theorem up_any (w : World) (b g n cap : Nat) (fl : List Int) (hbg : b ≠ g) (h5 : w.cell? ⟨b, 5, none⟩ = some (.slice (some ⟨g, 0, none⟩) (n + 1) cap)) (hb : b < w.heap.size)
    (hf : w.ownsRow 0 3 1 (.slice (some ⟨g, 0, none⟩) (n + 1) cap) (n + 1) (fl.map (Value.int .i64))) (hn : n ≤ 1000000) :
    Calls Try.prog 83 #[.pointer (some ⟨b, 0, none⟩)] w fun e w' => e = .returned (.tuple #[]) ∧
      w'.ownsRow 0 3 1 (.slice (some ⟨g, 0, none⟩) (n + 1) cap) (n + 1) ((siftUp fl n n).map (Value.int .i64)) ∧ Touch (· = g) w w' := by
  have hfl := owns_len hf
  go_enter Try.func83, Try.ntmps83
  go_wp2
  go_loopg [2] (n + 1) (fun gk iv wr => ∃ (i f : Nat) (fk : List Int), iv = .int .i64 i ∧ i ≤ n ∧ i ≤ f ∧ i + 1 ≤ gk ∧ fk.length = n + 1 ∧ Hid (siftUp fl n n = siftUp fk f i) ∧ wr.ownsRow 0 3 1 (.slice (some ⟨g, 0, none⟩) (n + 1) cap) (n + 1) (fk.map (Value.int .i64)) ∧ Touch (· = g) w wr)
  case atStart => exact ⟨n, n, fl, by go_num, by omega, by omega, by omega, hfl, rfl, hf, Touch.refl _ _⟩
  case round =>
    obtain ⟨i, f, fk, rfl, hin, hif, hig, hfk, HE, hown, ht⟩ := hrel
    have c5 := (ht.cell (p := ⟨b, 5, none⟩) hb hbg).trans h5
    clear h5 hf
    by_cases h0 : 0 < i
    · have i1 : (i : Int) < ((n + 1 : Nat) : Int) := by omega
      have e1 : ((i : Int) - 1) / 2 = (((i - 1) / 2 : Nat) : Int) := by omega
      obtain ⟨j, hj⟩ : ∃ j, (i - 1) / 2 = j := ⟨_, rfl⟩
      rw [hj] at e1
      obtain ⟨x, hx⟩ : ∃ x, fk.getD i 0 = x := ⟨_, rfl⟩
      obtain ⟨y, hy⟩ : ∃ y, fk.getD j 0 = y := ⟨_, rfl⟩
      have ci := owns_cell hown i x (by rw [← hx]; exact getD_some _ _ (by omega))
      have cj := owns_cell hown j y (by rw [← hy]; exact getD_some _ _ (by omega))
      have fi := hown.frozenAt i
      have fj := hown.frozenAt j
      have j1 : j < n + 1 := by omega
      have hgt : decide ((0 : Int) < (i : Int)) = true := decide_eq_true (by omega)
      by_cases hxy : x < y
      · go_wp2_with fail
        go_quiet (fail)
        go_wp2_with fail
        generalize hwq : wr.drewN _ = wq
        have hownq : wq.ownsRow 0 3 1 (.slice (some ⟨g, 0, none⟩) (n + 1) cap) (n + 1) (fk.map (Value.int .i64)) := by rw [← hwq]; exact hown
        have tq : Touch (· = g) w wq := by rw [← hwq]; exact ht.drewN _
        have c5q : wq.cell? ⟨b, 5, none⟩ = some (.slice (some ⟨g, 0, none⟩) (n + 1) cap) := by rw [← hwq]; exact c5
        have ciq : wq.cell? ⟨g, i, none⟩ = some (.int .i64 x) := by rw [← hwq]; exact ci
        have cjq : wq.cell? ⟨g, j, none⟩ = some (.int .i64 y) := by rw [← hwq]; exact cj
        have fiq := hownq.frozenAt i
        have fjq := hownq.frozenAt j
        have HO := Lib.hid hownq
        have HTq := Lib.hid tq
        clear hwq hown ht hownq tq c5 ci cj fi fj
        have hij : ¬ i = j := by omega
        have HX : Hid (fk.getD i 0 = x ∧ fk.getD j 0 = y ∧ (i - 1) / 2 = j) := ⟨hx, hy, hj⟩
        clear hx hy hj
        go_region
        go_wp2
        go_roundg (j + 1)
        case measure => omega
        case rel =>
          obtain ⟨f, rfl⟩ : ∃ q, f = q + 1 := ⟨f - 1, by omega⟩
          have hs : swp fk i j = (fk.set i y).set j x := by unfold swp; rw [HX.out.1, HX.out.2.1]
          refine ⟨j, f, swp fk i j, by go_num, by omega, by omega, by omega, by rw [swp_len]; exact hfk, ?_, ?_, ?_⟩
          · show _ = _
            rw [HE.out]
            simp only [siftUp]
            rw [HX.out.2.2, HX.out.1, HX.out.2.1, if_pos ⟨h0, hxy⟩]
          · rw [hs]; exact owns_set (owns_set HO.out i y) j x
          · exact ((HTq.out.setCell (p := ⟨g, i, none⟩) (.inl rfl) (.int .i64 y)).setCell (p := ⟨g, j, none⟩) (.inl rfl) (.int .i64 x)).drew
      · have hnx : decide (x < y) = false := decide_eq_false hxy
        have HX : Hid (fk.getD i 0 = x ∧ fk.getD j 0 = y ∧ (i - 1) / 2 = j) := ⟨hx, hy, hj⟩
        clear hx hy hj
        have HO := Lib.hid hown
        have HT := Lib.hid ht
        clear hown ht
        go_wp2_with fail
        go_quiet (fail)
        go_wp2_with fail
        go_end0
        refine ⟨rfl, ?_, HT.out.drewN _⟩
        have : siftUp fl n n = fk := by
          rw [HE.out]
          cases f with
          | zero => rfl
          | succ f => simp only [siftUp]; rw [HX.out.2.2, HX.out.1, HX.out.2.1, if_neg (fun h => by have := h.2; omega)]
        rw [this]; exact HO.out
    · have hgt : decide ((0 : Int) < (i : Int)) = false := decide_eq_false (by omega)
      have HO := Lib.hid hown
      have HT := Lib.hid ht
      clear hown ht
      go_wp2_with fail
      go_quiet (fail)
      go_wp2_with fail
      go_end0
      refine ⟨rfl, ?_, HT.out.drewN _⟩
      have : siftUp fl n n = fk := by
        rw [HE.out]
        cases f with
        | zero => rfl
        | succ f => simp only [siftUp]; rw [if_neg (fun h => h0 h.1)]
      rw [this]; exact HO.out
end Go.Proofs.Ytmflapajjghpmaa
