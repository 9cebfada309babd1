/- maps.longest as a help of the machine. -/
import Derived.Test.YtgpmlbkhjpdebaaGreatLgW
import Derived.Test.YtgpmlbkhjpdebaaGreatSrtPlain
import Derived.Test.YtgpmlbkhjpdebaaGreatAmC
set_option linter.unusedSimpArgs false
set_option linter.unusedVariables false
set_option maxRecDepth 100000
namespace Go.Proofs.YtgpmlbkhjpdebaaGreat
open Go.RowKit Go.Shelf

/-- instructions out of a row's cells -/
def icOf : List Value → Option (List Ic)
  | [] => some []
  | .int .u8 o :: .int .i64 a :: .int .i64 b :: .int .i64 c :: .int .i64 n :: l => (icOf l).map (⟨o, a, b, c, n⟩ :: ·)
  | _ => none
theorem icOf_some : ∀ (k : Nat) (l : List Value) (xs : List Ic), l.length ≤ k → icOf l = some xs → l = xs.flatMap Ic.cells := by
  intro k
  induction k with
  | zero =>
    intro l xs hl h
    obtain rfl : l = [] := List.length_eq_zero_iff.1 (by omega)
    simp only [icOf, Option.some.injEq] at h
    subst h; rfl
  | succ k ih =>
    intro l xs hl h
    unfold icOf at h
    split at h
    · cases h; rfl
    · rename_i o a b c n l
      obtain ⟨ys, hy, rfl⟩ := Option.map_eq_some_iff.1 h
      have := ih l ys (by simp at hl; omega) hy
      simp only [List.flatMap_cons, ← this]; rfl
    · cases h
theorem flat_at : ∀ (xs : List Ic) (j k : Nat) (x : Ic) (v : Value), xs[j]? = some x → x.cells[k]? = some v → (xs.flatMap Ic.cells)[j * 5 + k]? = some v
  | [], j, k, x, v, h, _ => by simp at h
  | y :: xs, 0, k, x, v, h, hk => by
    simp only [List.getElem?_cons_zero, Option.some.injEq] at h
    subst h
    have hlt : k < y.cells.length := (List.getElem?_eq_some_iff.1 hk).1
    rw [List.flatMap_cons, Nat.zero_mul, Nat.zero_add, List.getElem?_append_left hlt]; exact hk
  | y :: xs, j + 1, k, x, v, h, hk => by
    rw [List.flatMap_cons, List.getElem?_append_right (by show 5 ≤ _; omega)]
    rw [show (j + 1) * 5 + k - y.cells.length = j * 5 + k by show (j + 1) * 5 + k - 5 = _; omega]
    exact flat_at xs j k x v (by simpa using h) hk
/-- a slice's instructions -/
def insOf (H : AHeap) : Value → Option (List Ic)
  | .slice none 0 0 => some []
  | .slice (some ⟨i, o, none⟩) n _ => match H.get i with
    | some (.row cells _ _ _) => match icOf ((cells.drop o).take (n * 5)) with
      | some xs => cond (Nat.beq xs.length n) (some xs) none
      | none => none
    | _ => none
  | _ => none
def zsOf (H : AHeap) : Value → Option (List Int)
  | .slice none 0 0 => some []
  | .slice (some ⟨i, o, none⟩) n _ => match H.get i with
    | some (.row cells _ _ _) => match intsOf ((cells.drop o).take n) with
      | some xs => cond (Nat.beq xs.length n) (some xs) none
      | none => none
    | _ => none
  | _ => none
def fOf (xs : List Ic) : Nat → Ic := fun j => xs.getD j ⟨0, 0, 0, 0, 0⟩
def inB (n x : Int) : Bool := decide (0 ≤ x) && decide (x ≤ n)
def okIc (n : Int) (x : Ic) : Bool := cond (decide (x.op = 26) || (decide (x.op = 27) || (decide (x.op = 31) || decide (x.op = 29)))) (inB n x.b && inB n x.c) true
def lgDown (f : Nat → Ic) : Nat → List Int → List Int
  | 0, V => V
  | k + 1, V => lgDown f k (lgStep f V k)
theorem lgDown_run (f : Nat → Ic) (n : Nat) : ∀ k, k ≤ n → lgDown f (n - k) (lgRun f ((revs n).take k)) = lgRun f (revs n) := by
  have : ∀ d k, d + k = n → lgDown f d (lgRun f ((revs n).take k)) = lgRun f (revs n) := by
    intro d
    induction d with
    | zero => intro k hk; rw [List.take_of_length_le (by rw [revs_length]; omega)]; rfl
    | succ d ih =>
      intro k hk
      rw [← ih (k + 1) (by omega), revs_at (show k < n by omega), lgRun_snoc]
      show lgDown f d (lgStep f _ d) = lgDown f d (lgStep f _ (n - 1 - k))
      rw [show n - 1 - k = d by omega]
  exact fun k hk => this _ _ (by omega)
theorem lgDown_all (f : Nat → Ic) (n : Nat) : lgDown f n (List.replicate (n + 1) 0) = lgRun f (revs n) := by
  have := lgDown_run f n 0 (Nat.zero_le _)
  rw [← this]; rfl
def longFn : List Value → AHeap → Option (Value × AHeap)
  | [.agg ⟨[.int .i64 _, v1, v2]⟩], H => match insOf H v1, zsOf H v2 with
    | some xs, some st => cond (xs.all (okIc xs.length) && (st.all (inB xs.length) && (Nat.ble xs.length 1000000 && Nat.ble st.length 1000000))) (some (.int .i64 (lgMost (lgDown (fOf xs) xs.length (List.replicate (xs.length + 1) 0)) st), H)) none
    | _, _ => none
  | _, _ => none
def longO : Helps := fun k => cond (Nat.beq k 15) (some longFn) none

theorem cell_world {β : Ren} {H : AHeap} {w : World} (hr : Rel β H w) {i : Nat} {cells : List Value} {T z : Nat} {own : Bool} (hg : H.get i = some (.row cells T z own)) {s : Spot} (hs : β i = some s) {j : Nat} {kd : IntKind} {x : Int} (hj : cells[j]? = some (.int kd x)) : w.cell? ⟨s.blk, s.shift + j, none⟩ = some (.int kd x) := by
  obtain ⟨v', h1, h2⟩ := (hr.obj _ _ _ hg hs).2.1 j _ hj
  cases h2; exact h1
theorem ic_int (x : Ic) (k : Nat) (u : Value) (h : x.cells[k]? = some u) : ∃ kd y, u = .int kd y := by
  match k, h with
  | 0, h => cases h; exact ⟨_, _, rfl⟩
  | 1, h => cases h; exact ⟨_, _, rfl⟩
  | 2, h => cases h; exact ⟨_, _, rfl⟩
  | 3, h => cases h; exact ⟨_, _, rfl⟩
  | 4, h => cases h; exact ⟨_, _, rfl⟩
  | k + 5, h => simp [Ic.cells] at h
theorem slice_world {β : Ren} {H : AHeap} {w : World} (hr : Rel β H w) {i o n c : Nat} {v' : Value} (hv : VR β (.slice (some ⟨i, o, none⟩) n c) v') : ∃ s b q cap, β i = some s ∧ v' = .slice (some ⟨s.blk, q, none⟩) n cap ∧ (n ≠ 0 → q = s.shift + o) ∧ b = s.blk ∧ b < w.heap.size := by
  cases hv with
  | slice h hn hm hc => exact ⟨_, _, _, _, h, rfl, fun _ => rfl, rfl, hr.blk _ _ h⟩
  | sliceE h hm hc => exact ⟨_, _, _, _, h, rfl, fun h0 => absurd rfl h0, rfl, hr.blk _ _ h⟩
theorem ins_world {β : Ren} {H : AHeap} {w : World} (hr : Rel β H w) {v v' : Value} {xs : List Ic} (h : insOf H v = some xs) (hv : VR β v v') : ∃ a cap, v' = .slice a xs.length cap ∧ InsAt w.heap.size w v' (fOf xs) xs.length := by
  unfold insOf at h
  split at h
  · cases h; cases hv; exact ⟨none, 0, rfl, .inl ⟨rfl, rfl⟩⟩
  · rename_i i o n c
    split at h
    · rename_i cells T z own hg
      split at h
      · rename_i ys hy
        cases hb : Nat.beq ys.length n with
        | false => rw [hb] at h; cases h
        | true =>
          rw [hb] at h
          cases h
          have hn := Nat.eq_of_beq_eq_true hb
          subst hn
          have hcs := icOf_some _ _ _ (Nat.le_refl _) hy
          obtain ⟨s, b, q, cap, hs, rfl, hq, rfl, hlt⟩ := slice_world hr hv
          refine ⟨_, _, rfl, .inr ⟨_, _, _, rfl, hlt, fun j hj k u hu => ?_⟩⟩
          have hx : xs[j]? = some (fOf xs j) := by simp [fOf, List.getD_eq_getElem?_getD, List.getElem?_eq_getElem hj]
          have h1 := flat_at xs j k _ u hx hu
          have hk5 : k < 5 := (List.getElem?_eq_some_iff.1 hu).1
          rw [← hcs, List.getElem?_take_of_lt (by omega), List.getElem?_drop] at h1
          obtain ⟨kd, y, rfl⟩ := ic_int _ _ _ hu
          have := cell_world hr hg hs h1
          rw [hq (by omega), show s.shift + o + j * 5 + k = s.shift + (o + (j * 5 + k)) by omega]
          exact this
      · cases h
    · cases h
  · cases h
theorem zs_world {β : Ren} {H : AHeap} {w : World} (hr : Rel β H w) {v v' : Value} {xs : List Int} (h : zsOf H v = some xs) (hv : VR β v v') : ∃ a cap, v' = .slice a xs.length cap ∧ IntsAt w.heap.size w v' xs := by
  unfold zsOf at h
  split at h
  · cases h; cases hv; exact ⟨none, 0, rfl, .inl ⟨rfl, rfl⟩⟩
  · rename_i i o n c
    split at h
    · rename_i cells T z own hg
      split at h
      · rename_i ys hy
        cases hb : Nat.beq ys.length n with
        | false => rw [hb] at h; cases h
        | true =>
          rw [hb] at h
          cases h
          have hn := Nat.eq_of_beq_eq_true hb
          subst hn
          have hcs := intsOf_some _ _ hy
          obtain ⟨s, b, q, cap, hs, rfl, hq, rfl, hlt⟩ := slice_world hr hv
          refine ⟨_, _, rfl, .inr ⟨_, _, _, rfl, hlt, fun j hj => ?_⟩⟩
          have h1 : (xs.map zv)[j]? = some (.int .i64 (xs.getD j 0)) := by simp [zv, List.getD_eq_getElem?_getD, List.getElem?_eq_getElem hj]
          rw [← hcs, List.getElem?_take_of_lt hj, List.getElem?_drop] at h1
          have := cell_world hr hg hs h1
          rw [hq (by omega), Nat.add_assoc]
          exact this
      · cases h
    · cases h
  · cases h
theorem inB_ok {n x : Int} (h : inB n x = true) : 0 ≤ x ∧ x ≤ n := by simpa [inB] using h
theorem long_sound : CallSound Tryz.prog [] (helpFn longO) := fun f args H v H' h hwf => by
  simp only [helpFn, longO] at h
  cases hg : Nat.beq f 15 with
  | false => rw [hg] at h; cases h
  | true =>
    have hg := Nat.eq_of_beq_eq_true hg
    subst hg
    simp only [Nat.beq_refl, cond] at h
    unfold longFn at h
    split at h
    · rename_i r v1 v2
      split at h
      · rename_i xs st hx hz
        cases hc : (xs.all (okIc xs.length) && (st.all (inB xs.length) && (Nat.ble xs.length 1000000 && Nat.ble st.length 1000000))) with
        | true =>
          rw [hc] at h
          cases h
          simp only [Bool.and_eq_true, List.all_eq_true, Nat.ble_eq] at hc
          obtain ⟨c1, c2, c3, c4⟩ := hc
          refine ⟨.refl _ _, fun β w args' hr hglob hargs => ?_⟩
          obtain ⟨hl, ha⟩ := hargs
          match args', hl, ha with
          | [y], _, ha =>
            have h0 := ha 0 _ _ rfl rfl
            cases h0 with
            | @agg _ a' hsz hel =>
              obtain ⟨l'⟩ := a'
              match l', hsz, hel with
              | [y0, y1, y2], _, hel =>
                have e0 := hel 0 _ _ rfl rfl
                cases e0
                obtain ⟨a1, cap1, rfl, hI⟩ := ins_world hr hx (hel 1 _ _ rfl rfl)
                obtain ⟨a2, cap2, rfl, hS⟩ := zs_world hr hz (hel 2 _ _ rfl rfl)
                refine (callsIn_wide (n := 3)).1 ((longest_in Fence.wide 3 trivial trivial trivial rfl (Nat.le_refl _) r a1 a2 xs.length cap1 st.length cap2 (fOf xs) st w c3 c4 hI hS (fun j hj hop => ?_) (fun s hs => inB_ok (c2 s hs))).mono ?_)
                · have hx1 : fOf xs j ∈ xs := by rw [fOf, List.getD_eq_getElem?_getD, List.getElem?_eq_getElem hj]; exact List.getElem_mem hj
                  have := c1 _ hx1
                  have hcd : (decide ((fOf xs j).op = 26) || (decide ((fOf xs j).op = 27) || (decide ((fOf xs j).op = 31) || decide ((fOf xs j).op = 29)))) = true := by simpa using hop
                  rw [okIc, hcd] at this
                  simp only [cond, Bool.and_eq_true] at this
                  exact ⟨inB_ok this.1, inB_ok this.2⟩
                · rintro e w' ⟨rfl, hB⟩
                  rw [lgDown_all]
                  exact ⟨_, β, rfl, .int _ _, goes_below hr hB, fun _ _ => rfl⟩
        | false => rw [hc] at h; cases h
      · cases h
    · cases h
theorem true_of_o {P : Program} {O : Helps} (ho : CallSound P [] (helpFn O)) (hm : P.follows .mixedOrders = true) (n : Nat) (f : FuncId) (args : List Value) (hf : args.all flat = true) (h : okTrue (oCall P [] O n f args emptyH) = true) (w : World) : Calls P f args.toArray w fun e w' => e = .returned (.bool true) ∧ Below w.heap.size w w' := by
  unfold okTrue at h
  split at h
  · rename_i H' hr
    obtain ⟨_, hs⟩ := oCall_sound ho hm n f args emptyH (.bool true) H' hr emptyH_wf
    refine (hs _ w args (emptyH_rel w) (fun g hg => (by cases hg)) ⟨rfl, fun j x y hx hy => ?_⟩).mono fun e w' hh => ?_
    · rw [hx] at hy; cases hy
      exact (flat_vr (List.all_eq_true.1 hf x (List.mem_of_getElem? hx)) _).1
    · obtain ⟨v', β', rfl, h1, h2, _⟩ := hh
      cases h1
      exact ⟨rfl, h2.below (fun i s hi => (by cases hi))⟩
  · cases h
end Go.Proofs.YtgpmlbkhjpdebaaGreat
