/- Table: what the laws need: the chapter's examples, keys that stay in bounds. -/
import Derived.Test.YtmflapajjghpmaaTabPick
import Derived.Test.YtmflapajjghpmaaAmGuest
namespace Go.Proofs.Ytmflapajjghpmaa
open Go.RowKit
set_option linter.unusedSimpArgs false
set_option linter.unusedVariables false

theorem y_exitcut {P : Program} {call : CallFn} {fuel : Nat} {a b : Code} {env : Tr Value} {H : AHeap} {Q : St → Prop} (h1 : Got (rCode P call fuel a env H) fun s => ∃ id e h, s = (Way.out id, e, h) ∧ Q (Way.out id, e, h)) : Got (rCode P call fuel (.seq a b) env H) Q := by
  rw [y_seq]
  refine h1.mono ?_
  rintro s ⟨id, e, h, rfl, hq⟩
  exact hq
theorem or_t {a b : Bool} (h : b = true) : (a || b) = true := by rw [h]; cases a <;> rfl
theorem and_t {a b : Bool} (h : a = true) (h2 : b = true) : (a && b) = true := by rw [h, h2]; rfl
theorem awake13 (w : World) : Calls Try.prog 28 #[] w fun e w' => e = .returned (.bool true) ∧ Below w.heap.size w w' :=
  true_of_am (by kernel_rfl) 60 28 [] rfl (by kernel_rfl) w
def O13 : Helps := flatHelp 28 (.bool true)
theorem O13_sound : CallSound Try.prog [] (helpFn O13) := flatHelp_sound rfl awake13
theorem clear13 : Clear O13 := fun f hf => by
  have h : f ≠ 28 := fun e => hf (by rw [e]; decide)
  unfold O13 flatHelp
  rw [beq_ne h]; rfl
theorem awake13_ok {n : Nat} {o : Tr AObj} {nx : Nat} {lg : List Nat} : oCall Try.prog [] O13 (n + 1) 28 [] ⟨o, nx, lg⟩ = some (.bool true, ⟨o, nx, lg⟩) := rfl
theorem set_mem {l : List (VV × VV)} {k v : VV} {p : VV × VV} (h : p ∈ setL l k v) : p.1 = k ∨ ∃ q ∈ l, p.1 = q.1 := by
  unfold setL at h
  split at h
  · rcases List.mem_or_eq_of_mem_set h with h | h
    · exact .inr ⟨p, h, rfl⟩
    · exact .inl (by rw [h])
  · split at h
    · exact .inr ⟨p, h, rfl⟩
    · rcases List.mem_append.1 h with h | h
      · exact .inr ⟨p, (List.filter_sublist).subset h, rfl⟩
      · simp at h; exact .inl (by rw [h])
theorem set_len (l : List (VV × VV)) (k v : VV) : (setL l k v).length ≤ l.length + 1 := by
  unfold setL
  split
  · rw [List.length_set]; omega
  · split
    · omega
    · rw [List.length_append]
      have : (liveL l).length ≤ l.length := List.length_filter_le _ _
      simp; omega
theorem num_may {x : Int} {v : VV} (hv : v = (0, 0) ∨ v.1 = 3) : MaySet (3, x) v := by
  refine ⟨by show ¬ (3 : Int) < 1; decide, by show ¬ (8 : Int) < 3; decide, ?_, by rfl, ?_⟩
  · rcases hv with rfl | h
    · decide
    · rw [h]; decide
  · rcases hv with rfl | h
    · rfl
    · unfold plainB; rw [h]; rfl
theorem get_out {l : List (VV × VV)} {k : VV} (h : ∀ p ∈ l, p.1 ≠ k) : getL l k = (0, 0) := by
  unfold getL
  rw [List.find?_eq_none.2 fun p hp => by simpa using h p hp]
theorem guest_len {w : World} {a : Option Addr} {len cap : Nat} {z : List Int} (h : GuestRow w a len cap z) {i : Nat} (hi : i < len) : (∃ x, a = some x) ∧ i < z.length := by
  rcases h with ⟨_, rfl, _⟩ | ⟨x, h1, h2, _, h4, _⟩
  · omega
  · exact ⟨⟨x, h1⟩, by omega⟩
/-- how the guests lie -/
structure Guests (og : Tr AObj) (ak av : Option Addr) (lk lv : Nat) (zk zv : List Int) : Prop where
  k : ∀ i, i < lk → ak = some ⟨0, 0, none⟩ ∧ i < zk.length
  v : ∀ i, i < lv → av = some ⟨1, 0, none⟩ ∧ i < zv.length
  gk : og.get 0 = some (.row (zk.map (Value.int .i64)) 0 1 false)
  gv : og.get 1 = some (.row (zv.map (Value.int .i64)) 0 1 false)
/-- the table, and that the guests are as they were -/
def TabOk (og : Tr AObj) (lo n : Nat) (i : Nat) (l : List (VV × VV)) (H : AHeap) : Prop := ∃ o' nx' lg' m a, H = ⟨o', nx', lg'⟩ ∧ lo ≤ nx' ∧ TabIn o' nx' i m a l ∧ (∀ b, Mine i m a b → lo ≤ b) ∧ (∀ b, b < lo → o'.get b = og.get b) ∧ l.length ≤ n
theorem guests2 {w : World} {a0 a1 : Option Addr} {len0 len1 cap0 cap1 : Nat} {z0 z1 : List Int} (w0 : GuestRow w a0 len0 cap0 z0) (w1 : GuestRow w a1 len1 cap1 z1) :
    Guests (gH [.sl a0 len0 cap0 z0, .sl a1 len1 cap1 z1]).objs (a0.map fun _ => ⟨0, 0, none⟩) (a1.map fun _ => ⟨1, 0, none⟩) len0 len1 z0 z1 := by
  refine ⟨fun i hi => ?_, fun i hi => ?_, ?_, ?_⟩
  · obtain ⟨⟨x, rfl⟩, h⟩ := guest_len w0 hi; exact ⟨rfl, h⟩
  · obtain ⟨⟨x, rfl⟩, h⟩ := guest_len w1 hi; exact ⟨rfl, h⟩
  · exact (gH_get _ 0).trans rfl
  · exact (gH_get _ 1).trans rfl
end Go.Proofs.Ytmflapajjghpmaa
