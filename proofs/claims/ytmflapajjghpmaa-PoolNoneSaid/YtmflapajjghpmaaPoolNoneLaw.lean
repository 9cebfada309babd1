/- PoolNone, as walked. -/
import Derived.Test.YtmflapajjghpmaaPoolBad
import Derived.Deep.RegionWith
namespace Go.Proofs.Ytmflapajjghpmaa
open Go.RowKit

set_option maxRecDepth 100000 in
set_option maxHeartbeats 8000000 in
theorem poolNone_any (id size : Int) (w : World) : Calls Try.prog 10 #[.int .i64 id, .int .i64 size] w fun e w' => e = .returned (.bool true) ∧ Below w.heap.size w w' := by
  go_enter Try.func10, Try.ntmps10
  go_wp2_with fail
  generalize hw1 : World.alloc (World.alloc _ _) _ = w1
  have h1 : w1.heap[w.heap.size]? = some (.cells #[.bool false, .int .i64 0, .int .i64 0, .int .i64 0, .slice none 0 0, .slice none 0 0] 74 (0, 0)) := by rw [← hw1]; exact (two_new w _ _).1
  have h2 : w1.heap[w.heap.size + 1]? = some (.cells #[.pointer none, .pointer (some ⟨w.heap.size, 0, none⟩)] 24 (0, 0)) := by rw [← hw1]; exact (two_new w _ _).2
  have hb : Below w.heap.size w w1 := by rw [← hw1]; exact ((Below.refl _ w).alloc (Nat.le_refl _) _).alloc (by simp) _
  obtain ⟨k, hk⟩ : ∃ k, w.heap.size = k := ⟨_, rfl⟩
  have c0 := known_cell h2 0
  have c1 := known_cell h2 1
  have p1 : BadPool w1 (.pointer none) := .inl rfl
  have p2 : BadPool w1 (.pointer (some ⟨k, 0, none⟩)) := .inr ⟨k, rfl, by rw [← hk]; exact known_cell h1 0⟩
  simp only [List.getElem?_toArray, List.getElem?_cons_zero, List.getElem?_cons_succ] at c0 c1
  rw [hk] at c0 c1 ⊢
  have HB := Lib.hid hb
  have HK := Lib.hid hk
  have H1 := Lib.hid p1
  have H2 := Lib.hid p2
  clear hw1 h1 h2 hb hk p1 p2
  refine wp_loop_rounds 8 ?_
  repeat any_goals (rw [rounds_succ]; go_wp2_with (first
    | (go_at_call_of 19 (Value.pointer none); refine (take_bad H1.out size).mono ?_; rintro e w' ⟨rfl, rfl⟩)
    | (go_at_call_of 19 (Value.pointer (some ⟨k, 0, none⟩)); refine (take_bad H2.out size).mono ?_; rintro e w' ⟨rfl, rfl⟩)
    | (go_at_call_of 32 (Value.pointer none); refine (size_bad H1.out id).mono ?_; rintro e w' ⟨rfl, rfl⟩)
    | (go_at_call_of 32 (Value.pointer (some ⟨k, 0, none⟩)); refine (size_bad H2.out id).mono ?_; rintro e w' ⟨rfl, rfl⟩)
    | (go_at_call_of 17 (Value.pointer none); refine (give_bad H1.out id).mono ?_; rintro e w' ⟨rfl, rfl⟩)
    | (go_at_call_of 17 (Value.pointer (some ⟨k, 0, none⟩)); refine (give_bad H2.out id).mono ?_; rintro e w' ⟨rfl, rfl⟩)
    | (go_at_call_of 18 (Value.pointer none); refine (resize_bad H1.out id size).mono ?_; rintro e w' ⟨rfl, rfl⟩)
    | (go_at_call_of 18 (Value.pointer (some ⟨k, 0, none⟩)); refine (resize_bad H2.out id size).mono ?_; rintro e w' ⟨rfl, rfl⟩)
    | (go_at_call_of 20 (Value.pointer none); refine (used_bad H1.out).mono ?_; rintro e w' ⟨rfl, rfl⟩)
    | (go_at_call_of 20 (Value.pointer (some ⟨k, 0, none⟩)); refine (used_bad H2.out).mono ?_; rintro e w' ⟨rfl, rfl⟩)
    | (go_at_call_of 33 (Value.pointer none); refine (count_bad H1.out).mono ?_; rintro e w' ⟨rfl, rfl⟩)
    | (go_at_call_of 33 (Value.pointer (some ⟨k, 0, none⟩)); refine (count_bad H2.out).mono ?_; rintro e w' ⟨rfl, rfl⟩)
    | (go_at_call_of 43 (Value.pointer none); refine (ids_bad H1.out).mono ?_; rintro e w' ⟨rfl, rfl⟩)
    | (go_at_call_of 43 (Value.pointer (some ⟨k, 0, none⟩)); refine (ids_bad H2.out).mono ?_; rintro e w' ⟨rfl, rfl⟩)
    | (go_at_call_of 39 (Value.pointer none); refine (copy_bad H1.out).mono ?_; rintro e w' ⟨rfl, rfl⟩)
    | (go_at_call_of 39 (Value.pointer (some ⟨k, 0, none⟩)); refine (copy_bad H2.out).mono ?_; rintro e w' ⟨rfl, rfl⟩)
    | (go_at_call 21; refine (awake_any _).mono ?_; rintro e w' ⟨rfl, ha⟩)))
  go_ret
  exact ⟨rfl, HB.out.trans (ha.mono HB.out.size)⟩
end Go.Proofs.Ytmflapajjghpmaa
