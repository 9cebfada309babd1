/- Each of package runes and of its reference, as walked: the characters and their places. -/
import Derived.Test.YtpncjpgjmpemiaaRefOne
import Derived.Lib.OthersKept
import Derived.WalkSmall
namespace Go.Proofs.Ytpncjpgjmpemiaa
open Go.RowKit

theorem Try.elemI32 : Elem Try.prog 26 21 (.int .i32 0) 1 4 := ⟨by kernel_rfl, by kernel_rfl⟩
theorem Try.elemI64 : Elem Try.prog 27 3 (.int .i64 0) 1 8 := ⟨by kernel_rfl, by kernel_rfl⟩

def runesOf (l : List (Nat × Nat)) : List Int := l.map fun x => (x.1 : Int)
def placesOf (l : List (Nat × Nat)) : List Int := l.map fun x => (x.2 : Int)
theorem runesOf_len (l : List (Nat × Nat)) : (runesOf l).length = l.length := by simp [runesOf]
theorem placesOf_len (l : List (Nat × Nat)) : (placesOf l).length = l.length := by simp [placesOf]
theorem runesOf_snoc (l : List (Nat × Nat)) (r p : Nat) : (runesOf (l ++ [(r, p)])).map (Value.int .i32) = (runesOf l).map (Value.int .i32) ++ [.int .i32 r] := by simp [runesOf]
theorem placesOf_snoc (l : List (Nat × Nat)) (r p : Nat) : (placesOf (l ++ [(r, p)])).map (Value.int .i64) = (placesOf l).map (Value.int .i64) ++ [.int .i64 p] := by simp [placesOf]
/-- what Each hands back: two rows of its own -/
def EachSays (l : List (Nat × Nat)) (w : World) (e : Ending) (w' : World) : Prop :=
  ∃ v1 v2, e = .returned (.tuple #[v1, v2]) ∧ w'.ownsRow w.heap.size 21 1 v1 l.length ((runesOf l).map (Value.int .i32)) ∧ w'.ownsRow w.heap.size 3 1 v2 l.length ((placesOf l).map (Value.int .i64)) ∧ Below w.heap.size w w'

theorem eachF_len (s : List UInt8) : ∀ f p, (eachF s f p).length ≤ f
  | 0, _ => by simp [eachF]
  | f + 1, p => by
    simp only [eachF]
    split
    · have := eachF_len s f (p + max 1 (oneAt s p).2); simp; omega
    · simp

theorem iterAt_grown (w : World) (k : Nat) (s : ByteArray) (pos : Nat) : w.grownBy (w.iterAt k s pos) (some k) :=
  ⟨rfl, rfl, rfl, by simp [World.iterAt], fun j hj hne => by
    have : k ≠ j := fun e => hne (by rw [e])
    simp [World.iterAt, this]⟩
theorem eachF_step (s : List UInt8) (f p : Nat) (h : p < s.length) : eachF s (f + 1) p = [((oneAt s p).1, p)] ++ eachF s f (p + max 1 (oneAt s p).2) := by
  simp only [eachF]; rw [if_pos h]; rfl
theorem below_iter {B : Nat} {w wr : World} {k : Nat} {s : ByteArray} {pos : Nat} (h : Below B w wr) (hk : B ≤ k) (hB : B ≤ wr.heap.size) : Below B w (wr.iterAt k s pos) :=
  h.grown (iterAt_grown _ _ _ _) hB (fun j hj => by have := Option.some.inj hj; omega)
theorem owns_iter {wr : World} {base E size n : Nat} {v : Value} {xs : List Value} (h : wr.ownsRow base E size v n xs) {k : Nat} (hk : k < base) (s : ByteArray) (pos : Nat) : (wr.iterAt k s pos).ownsRow base E size v n xs :=
  h.kept (iterAt_grown _ _ _ _) (by cases e : v.ownBlock with | none => exact .inl rfl | some g => exact .inr fun h2 => by have := (h.lt g e).1; have := Option.some.inj h2; omega)
theorem iter_grown {W w' : World} {k : Nat} {o : Obj} {base E size n : Nat} {v : Value} {xs : List Value} (hi : W.heap[k]? = some o) (hg : W.grownBy w' v.ownBlock) (hv : W.ownsRow base E size v n xs) (hk : k < base) : w'.heap[k]? = some o :=
  (hg.block k (Array.getElem?_eq_some_iff.1 hi).1 (fun e => by have := (hv.lt k e.symm).1; omega)).trans hi

set_option maxHeartbeats 2000000 in
theorem each_any (s : ByteArray) (w : World) (hs : s.size ≤ 100000) : Calls Try.prog 9 #[.string s] w (EachSays (eachL s.data.toList) w) := by
  have hlen : s.data.toList.length = s.size := by simp
  have hB : ∀ pos, (w.iter s pos).heap.size = w.heap.size + 1 := fun pos => by simp [World.iter]
  go_enter Try.func9, Try.ntmps9
  go_wp2_with fail
  go_loopw [4, 5] (fun ov av wr => ∃ (done : List (Nat × Nat)) (f p : Nat), Hid (eachL s.data.toList = done ++ eachF s.data.toList f p) ∧ s.size ≤ p + f ∧ done.length + f = s.size ∧ wr.heap[w.heap.size]? = some (.stringIter s p) ∧
      wr.ownsRow (w.heap.size + 1) 21 1 ov done.length ((runesOf done).map (Value.int .i32)) ∧ wr.ownsRow (w.heap.size + 1) 3 1 av done.length ((placesOf done).map (Value.int .i64)) ∧ RowsApart ov av ∧ Below w.heap.size w wr)
    (fun _ _ wr => s.size + 1 - wr.iterPos w.heap.size)
  case atStart =>
    refine ⟨[], s.size, 0, by show _ = _; simp [eachL, hlen], by omega, by simp, World.iter_heap _ _ _, World.ownsRow_nil _ _ _ _, World.ownsRow_nil _ _ _ _, fun g h => by simp [Value.ownBlock] at h, (Below.refl _ _).alloc (Nat.le_refl _) _⟩
  case round =>
    obtain ⟨done, f, p, HE, hpf, hdf, hit, ho, ha, hap, hbel⟩ := hrel
    have hsz := hbel.size
    by_cases hlt : p < s.size
    · obtain ⟨f, rfl⟩ : ∃ j, f = j + 1 := ⟨f - 1, by omega⟩
      have hdec := decode_fst s p hlt
      have hn := fun ty => Lib.run_next_any_at (P := Try.prog) wr w.heap.size s p ty hit hlt
      rw [hdec.1, hdec.2] at hn
      obtain ⟨r, hr⟩ : ∃ r, (oneAt s.data.toList p).1 = r := ⟨_, rfl⟩
      obtain ⟨d, hd⟩ : ∃ d, max 1 (oneAt s.data.toList p).2 = d := ⟨_, rfl⟩
      have hd1 : 1 ≤ d := by omega
      rw [hr, hd] at hn
      have HR : Hid (eachL s.data.toList = (done ++ [(r, p)]) ++ eachF s.data.toList f (p + d)) := by
        show _ = _
        rw [HE.out, eachF_step _ _ _ (by omega), hr, hd, List.append_assoc]
      clear HE hr hd hdec
      have HP : Hid (wr.iterPos w.heap.size = p) := by show _ = _; simp [World.iterPos, hit]
      have hit' := Lib.iterAt_heap wr w.heap.size s p (p + d) hit
      have ho' := owns_iter ho (k := w.heap.size) (by omega) s (p + d)
      have ha' := owns_iter ha (k := w.heap.size) (by omega) s (p + d)
      have hbel' := below_iter (k := w.heap.size) (s := s) (pos := p + d) hbel (Nat.le_refl _) hsz
      have hszi : (wr.iterAt w.heap.size s (p + d)).heap.size = wr.heap.size := by simp [World.iterAt]
      have hwlt : w.heap.size < wr.heap.size := (Array.getElem?_eq_some_iff.1 hit).1
      obtain ⟨wi, hwi⟩ : ∃ wi, wr.iterAt w.heap.size s (p + d) = wi := ⟨_, rfl⟩
      simp only [hwi] at hn hit' ho' ha' hbel' hszi
      have hB1 : w.heap.size + 1 ≤ wi.heap.size := by omega
      clear hwi ho ha hit hbel hszi
      go_wp2_with (first
        | (at_builtin; refine wpList_append_new Try.elemI32 rfl (by decide) wi rfl _ _ rfl rfl ho' 1 [.int .i32 r] rfl rfl (by decide) (by simp [Value.oneCell']) (by omega) (by omega) hB1 (Nat.le_succ _) hbel' ?_; intro v1 w1 ho1 hb1 hg1 hm1; have ha1 := owns_kept ha' hg1 hap.symm; have hit1 := iter_grown hit' hg1 ho' (Nat.lt_succ_self _); have hap1 := hap.symm.moved ha' hm1; have hs1 : w.heap.size + 1 ≤ w1.heap.size := Nat.le_trans hB1 hg1.size)
        | (at_builtin; refine wpList_append_new Try.elemI64 rfl (by decide) w1 rfl _ _ rfl rfl ha1 1 [.int .i64 p] rfl rfl (by decide) (by simp [Value.oneCell']) (by omega) (by omega) hs1 (Nat.le_succ _) hb1 ?_; intro v2 w2 ha2 hb2 hg2 hm2; have ho2 := owns_kept ho1 hg2 hap1.symm; have hit2 := iter_grown hit1 hg2 ha1 (Nat.lt_succ_self _); have hap2 := hap1.symm.moved ho1 hm2))
      go_roundw
      case rel => exact ⟨done ++ [(r, p)], f, p + d, HR, by omega, by simp; omega, hit2, by rw [runesOf_snoc, List.length_append]; exact ho2, by rw [placesOf_snoc, List.length_append]; exact ha2, hap2, hb2⟩
      case measure => rw [HP.out, show w2.iterPos w.heap.size = p + d from by simp [World.iterPos, hit2]]; omega
    · have hn := fun ty => Lib.run_next_end_at (P := Try.prog) wr w.heap.size s p ty hit hlt
      have HE' : Hid (eachL s.data.toList = done) := by
        show _ = _
        rw [HE.out, eachF_end _ _ _ (by omega), List.append_nil]
      clear HE
      go_wp2
      go_ret2
      refine ⟨_, _, rfl, ?_, ?_, hbel⟩
      · rw [HE'.out]; exact owns_base ho (Nat.le_succ _)
      · rw [HE'.out]; exact owns_base ha (Nat.le_succ _)
end Go.Proofs.Ytpncjpgjmpemiaa
