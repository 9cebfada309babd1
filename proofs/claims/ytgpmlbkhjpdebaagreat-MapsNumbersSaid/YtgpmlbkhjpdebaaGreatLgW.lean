/- The longest way of a code: plainly, and walked. -/
import Derived.Test.YtgpmlbkhjpdebaaGreatLgB
import Derived.Test.YtgpmlbkhjpdebaaGreatLgQ
import Derived.Laws.MakeOwn
import Derived.Laws.OwnMore
set_option linter.unusedSimpArgs false
set_option linter.unusedVariables false
namespace Go.Proofs.YtgpmlbkhjpdebaaGreat
open Go.RowKit Go.Shelf
attribute [local go_sem] Oper.semAt_some

def zi (x : Int) : Value := .int .i64 x
/-- a value of the list; 0 outside -/
def vAt (V : List Int) (x : Int) : Int := V.getD x.toNat 0
/-- how far it is from place j, where V tells it of the places behind -/
def lgVal (x : Ic) (V : List Int) (j : Nat) : Int :=
  if x.op = 30 ∨ x.op = 21 then 1
  else if x.op = 26 ∨ x.op = 27 ∨ x.op = 31 ∨ x.op = 29 then IntKind.i64.wrap (1 + max (vAt V x.b) (vAt V x.c))
  else IntKind.i64.wrap (1 + vAt V ((j : Int) + 1))
def lgStep (f : Nat → Ic) (V : List Int) (j : Nat) : List Int := V.set j (lgVal (f j) V j)
def lgRun (f : Nat → Ic) {n : Nat} (pre : List (Fin n)) : List Int := pre.foldl (fun V j => lgStep f V j.1) (List.replicate (n + 1) 0)
theorem lgRun_snoc (f : Nat → Ic) {n : Nat} (pre : List (Fin n)) (j : Fin n) : lgRun f (pre ++ [j]) = lgStep f (lgRun f pre) j.1 := by simp [lgRun]
theorem lgRun_length (f : Nat → Ic) {n : Nat} (pre : List (Fin n)) : (lgRun f pre).length = n + 1 := by
  have : ∀ (l : List (Fin n)) (V : List Int), (l.foldl (fun V j => lgStep f V j.1) V).length = V.length := by
    intro l
    induction l with
    | nil => intro V; rfl
    | cons x l ih => intro V; rw [List.foldl_cons, ih]; simp [lgStep]
  rw [lgRun, this]; simp
def lgMost (V : List Int) (starts : List Int) : Int := starts.foldl (fun m s => max m (vAt V s)) 0

/-- a row of integers in memory -/
def RowZ (W : World) (B : Nat) (t : TypeId) (V : List Int) : Prop := W.heap[B]? = some (.cells (V.map zi).toArray t (0, 0))
theorem RowZ.cell {W : World} {B : Nat} {t : TypeId} {V : List Int} (h : RowZ W B t V) {j : Nat} (hj : j < V.length) : W.cell? ⟨B, j, none⟩ = some (.int .i64 (V.getD j 0)) := by
  simp [World.cell?, show W.heap[B]? = _ from h, List.getD_eq_getElem?_getD, List.getElem?_eq_getElem hj, zi]
theorem RowZ.frozen {W : World} {B : Nat} {t : TypeId} {V : List Int} (h : RowZ W B t V) (j : Nat) : W.frozen? ⟨B, j, none⟩ = false := by simp [World.frozen?, show W.heap[B]? = _ from h]
theorem RowZ.set {W : World} {B : Nat} {t : TypeId} {V : List Int} (h : RowZ W B t V) (j : Nat) (x : Int) : RowZ (W.setCell ⟨B, j, none⟩ (.int .i64 x)) B t (V.set j x) := by
  obtain ⟨hlt, hk⟩ := Array.getElem?_eq_some_iff.1 h
  show (W.heap.modify B _)[B]? = _
  rw [Array.getElem?_eq_getElem (by rw [Array.size_modify]; exact hlt), Array.getElem_modify_self, hk]
  simp [List.map_set, zi]
theorem RowZ.kept {W W' : World} {row : Option Nat} {B : Nat} {t : TypeId} {V : List Int} (h : RowZ W B t V) (hg : W.grownBy W' row) (hne : some B ≠ row) : RowZ W' B t V := (hg.block B (Array.getElem?_eq_some_iff.1 h).1 hne).trans h
/-- a block of cells that are held -/
def Cells (W : World) (B : Nat) (t : TypeId) (cs : Array Value) : Prop := W.heap[B]? = some (.cells cs t (0, 0))
theorem cells_kept {X Y : World} {row : Option Nat} {B : Nat} {t : TypeId} {cs : Array Value} {fr : Nat × Nat} (h : X.heap[B]? = some (.cells cs t fr)) (hg : X.grownBy Y row) (hrow : ∀ r, row = some r → ∃ o : Obj, X.heap[r]? = some o ∧ o.isCells = false) : Y.heap[B]? = some (.cells cs t fr) := by
  refine (hg.block B (Array.getElem?_eq_some_iff.1 h).1 fun e => ?_).trans h
  obtain ⟨o, ho, hc⟩ := hrow B e.symm
  rw [h] at ho; cases ho; cases hc
theorem Cells.cell {W : World} {B : Nat} {t : TypeId} {cs : Array Value} (h : Cells W B t cs) {j : Nat} {v : Value} (hj : cs[j]? = some v) : W.cell? ⟨B, j, none⟩ = some v := by
  simp [World.cell?, show W.heap[B]? = _ from h, hj]
/-- a list of integers that lies in memory below n₀ -/
def IntsAt (n₀ : Nat) (W : World) (sv : Value) (V : List Int) : Prop :=
  (sv = .slice none 0 0 ∧ V = []) ∨ ∃ b off cap, sv = .slice (some ⟨b, off, none⟩) V.length cap ∧ b < n₀ ∧ ∀ j, j < V.length → W.cell? ⟨b, off + j, none⟩ = some (.int .i64 (V.getD j 0))
theorem IntsAt.below {n₀ : Nat} {A B : World} (h : Below n₀ A B) {sv : Value} {V : List Int} : IntsAt n₀ A sv V → IntsAt n₀ B sv V
  | .inl h0 => .inl h0
  | .inr ⟨b, off, cap, h1, h2, h3⟩ => .inr ⟨b, off, cap, h1, h2, fun j hj => (h.cell (p := ⟨b, off + j, none⟩) h2).trans (h3 j hj)⟩
/-- the ways that an instruction reads stand in the list -/
def InReach (f : Nat → Ic) (len : Nat) : Prop := ∀ j, j < len → ((f j).op = 26 ∨ (f j).op = 27 ∨ (f j).op = 31 ∨ (f j).op = 29) → (0 ≤ (f j).b ∧ (f j).b ≤ len) ∧ (0 ≤ (f j).c ∧ (f j).c ≤ len)

theorem infoInt : (Tryz.prog.info? 3).map (fun i => (i.zero, i.size, i.bytes)) = some (some (.int .i64 0), 1, 8) := by kernel_rfl
theorem made_zeros (n : Nat) : madeCells (Value.cells (.int .i64 0)) (n * 1) = ((List.replicate n (0 : Int)).map zi).toArray := by
  apply Array.ext
  · simp [madeCells]
  · intro i h1 h2
    simp [madeCells, Value.cells, zi, Nat.mod_one]
theorem w64_eq (n : Int) : wrap64 n = IntKind.i64.wrap n := by
  simp [IntKind.wrap, IntKind.bits, IntKind.signed, wrap64]
  split <;> omega
theorem wrap_succ {k : Nat} (h : k < 1000000) : wrap64 ((k : Int) + 1) = ((k + 1 : Nat) : Int) := by unfold wrap64; omega
theorem max_if (a b : Int) : max a b = if a < b then b else a := by split <;> omega
theorem i64_same {x : Int} (h1 : -9223372036854775808 ≤ x) (h2 : x ≤ 9223372036854775807) : IntKind.i64.wrap x = x := by
  rw [← w64_eq]; unfold wrap64; omega
set_option maxRecDepth 100000 in
set_option maxHeartbeats 2000000 in
theorem longest_in (F : Fence) (n : Nat) (h1 : F.fn 15) (h2 : F.fn 28) (h3 : F.fn 54) (hro : F.round = none) (hn : 3 ≤ n) (r : Int) (a1 a2 : Option Addr) (len cap len2 cap2 : Nat) (f : Nat → Ic) (starts : List Int) (w : World)
    (hreach : len ≤ 1000000) (hls : starts.length ≤ 1000000) (hI : InsAt w.heap.size w (.slice a1 len cap) f len) (hS : IntsAt w.heap.size w (.slice a2 len2 cap2) starts) (hR : InReach f len) (hSt : ∀ s ∈ starts, 0 ≤ s ∧ s ≤ len) :
    CallsIn F n Tryz.prog 15 #[.agg #[.int .i64 r, .slice a1 len cap, .slice a2 len2 cap2]] w fun e w' => e = .returned (.int .i64 (lgMost (lgRun f (revs len)) starts)) ∧ Below w.heap.size w w' := by
  have hn1 : 1 ≤ n := by omega
  refine callsIn_of_wp_marks Tryz.func15 rfl h1 ?_ hro
  simp only [Tryz.ntmps15, List.size_toArray, List.length_cons, List.length_nil, Nat.reduceAdd, Nat.reduceSub, Array.replicate_succ, Array.replicate_zero, List.push_toArray, List.append_toArray, List.nil_append, List.cons_append]
  obtain ⟨i0, hi, hz0, hz1, hz2⟩ := info_parts infoInt
  have hmk : ∀ W : World, (Instr.makeSlice 28 (.int .i64 ((len : Int) + 1)) (.int .i64 ((len : Int) + 1))).run Tryz.prog W = .ok (.slice (some ⟨W.heap.size, 0, none⟩) (len + 1) (len + 1)) (W.alloc (.cells ((List.replicate (len + 1) (0 : Int)).map zi).toArray 3)) := fun W => by
    have := run_makeSlice (P := Tryz.prog) W 28 3 i0 (.int .i64 0) Tryz.underlying28 hi hz0 .i64 .i64 ((len : Int) + 1) ((len : Int) + 1) (by omega) (by omega) (by rw [hz1]; omega) (by rw [hz2]; omega) (by omega)
    rw [this, hz1, show ((len : Int) + 1).toNat = len + 1 by omega, made_zeros]
  gi_wp2_with (gi_at_call 28; refine (backward_in F (n - 1) h2 hro _ _ _ _).mono ?_; rintro e w' ⟨rfl, rfl⟩)
  obtain ⟨W0, hW0⟩ : ∃ W0, (((w.alloc (.cells #[.int .i64 r, .slice a1 len cap, .slice a2 len2 cap2] 30)).alloc (.cells (Array.replicate (len + 1) (zi 0)) 3)).alloc (.cells #[.slice (some ⟨w.heap.size + 1, 0, none⟩) (len + 1) (len + 1)] 28)).alloc (.cells #[.slice a1 len cap] 27) = W0 := ⟨_, rfl⟩
  rw [hW0]
  have hsz : W0.heap.size = w.heap.size + 4 := by rw [← hW0]; simp
  have hB0 : Below w.heap.size w W0 := by
    rw [← hW0]
    exact ((((Below.refl _ w).alloc (Nat.le_refl _) _).alloc (by simp only [World.size_alloc]; omega) _).alloc (by simp only [World.size_alloc]; omega) _).alloc (by simp only [World.size_alloc]; omega) _
  have c0 : W0.heap[w.heap.size]? = some (.cells #[.int .i64 r, .slice a1 len cap, .slice a2 len2 cap2] 30 (0, 0)) := by
    rw [← hW0, Below.heap_alloc _ _ _ (by simp only [World.size_alloc]; omega), Below.heap_alloc _ _ _ (by simp only [World.size_alloc]; omega), Below.heap_alloc _ _ _ (by simp only [World.size_alloc]; omega)]
    exact World.alloc_heap_new w _
  have c1 : RowZ W0 (w.heap.size + 1) 3 (List.replicate (len + 1) 0) := by
    unfold RowZ
    rw [← hW0, Below.heap_alloc _ _ _ (by simp only [World.size_alloc]; omega), Below.heap_alloc _ _ _ (by simp only [World.size_alloc]; omega)]
    have := World.alloc_heap_new (w.alloc (.cells #[.int .i64 r, .slice a1 len cap, .slice a2 len2 cap2] 30)) (.cells (Array.replicate (len + 1) (zi 0)) 3)
    rw [World.size_alloc] at this
    rw [this]; simp
  have c2 : Boxed W0 (w.heap.size + 1 + 1) 28 (.slice (some ⟨w.heap.size + 1, 0, none⟩) (len + 1) (len + 1)) := by
    unfold Boxed
    rw [← hW0, Below.heap_alloc _ _ _ (by simp)]
    have := World.alloc_heap_new ((w.alloc (.cells #[.int .i64 r, .slice a1 len cap, .slice a2 len2 cap2] 30)).alloc (.cells (Array.replicate (len + 1) (zi 0)) 3)) (.cells #[.slice (some ⟨w.heap.size + 1, 0, none⟩) (len + 1) (len + 1)] 28)
    rw [World.size_alloc, World.size_alloc] at this
    exact this
  have c3 : Boxed W0 (w.heap.size + 1 + 1 + 1) 27 (.slice a1 len cap) := by
    unfold Boxed
    rw [← hW0]
    have := World.alloc_heap_new (((w.alloc (.cells #[.int .i64 r, .slice a1 len cap, .slice a2 len2 cap2] 30)).alloc (.cells (Array.replicate (len + 1) (zi 0)) 3)).alloc (.cells #[.slice (some ⟨w.heap.size + 1, 0, none⟩) (len + 1) (len + 1)] 28)) (.cells #[.slice a1 len cap] 27)
    rw [World.size_alloc, World.size_alloc, World.size_alloc] at this
    exact this
  clear hW0 hmk
  refine wpIn_rangeFunc_ownH hro hn1 (gf := 54) (lb := #[.pointer (some ⟨w.heap.size + 1 + 1 + 1, 0, none⟩)]) rfl h3 (enters_of Tryz.func54 (by kernel_rfl) rfl)
    (back_stops F (n - 1) h3 hro (by omega) (w.heap.size + 1 + 1 + 1) w.heap.size _ f len hreach W0 (by omega) c3 (hI.below hB0)) Kq.trans (kq_b (by omega) (by omega)) (Below.refl _ _) (fun _ => rfl)
    (fun pre W => (RowZ W (w.heap.size + 1) 3 (lgRun f pre) ∧ Boxed W (w.heap.size + 1 + 1) 28 (.slice (some ⟨w.heap.size + 1, 0, none⟩) (len + 1) (len + 1)) ∧ W.heap[w.heap.size]? = some (.cells #[.int .i64 r, .slice a1 len cap, .slice a2 len2 cap2] 30 (0, 0)) ∧ Boxed W (w.heap.size + 1 + 1 + 1) 27 (.slice a1 len cap)) ∧ Below w.heap.size w W)
    (fun _ _ _ => False)
    (OwnFrom.and (Own.from (fun s A B row hs hg hr => ⟨cells_kept hs.1 hg hr, cells_kept hs.2.1 hg hr, cells_kept hs.2.2.1 hg hr, cells_kept hs.2.2.2 hg hr⟩) _) (ownFrom_below (Nat.le_refl _) (by omega)))
    (fun c => Own.from (fun _ _ _ _ hs _ _ => hs) _)
    ⟨⟨by simpa [lgRun] using c1, c2, c0, c3⟩, hB0⟩
    (fun x a' W => ∃ Bx, w.heap.size + 4 ≤ Bx ∧ W.heap[Bx]? = some (.cells (f x.1).cells.toArray 34 (0, 0)) ∧ a' = { tmps := #[.agg #[.int .i64 r, .slice a1 len cap, .slice a2 len2 cap2], .pointer (some ⟨w.heap.size, 0, none⟩), .int .i64 0, .pointer (some ⟨w.heap.size + 1 + 1, 0, none⟩), .int .i64 0, .int .i64 (x.1 : Int), .pointer (some ⟨Bx, 0, none⟩), undef, undef, .pointer (some ⟨w.heap.size, 1, none⟩), .slice a1 len cap, .int .i64 (len : Int), .int .i64 ((len : Int) + 1), .slice (some ⟨w.heap.size + 1, 0, none⟩) (len + 1) (len + 1), .pointer (some ⟨w.heap.size, 1, none⟩), .slice a1 len cap, .func (.func 54) #[] #[.pointer (some ⟨w.heap.size + 1 + 1 + 1, 0, none⟩)], .int .i64 (x.1 : Int), .agg (f x.1).cells.toArray, undef, undef, undef, undef, undef, undef, undef, undef, undef, undef, undef, undef, undef, undef, undef, undef, undef, undef, undef, undef, undef, undef, undef, undef, undef, undef, undef, undef, undef, undef, undef, undef, undef, undef, undef, undef, undef, undef, undef, undef, undef, undef, undef, undef, undef, undef, undef, undef, undef, undef, undef, undef], defers := [] })
    (fun x a' => Own.from (fun _ A B row ⟨Bx, b1, b2, b3⟩ hg hr => ⟨Bx, b1, cells_kept b2 hg hr, b3⟩) _) ?assign ?body ?done ?stop
  case assign =>
    rintro l pre x W K hi hK
    simp only [encI, Ic.cells]
    gi_wp2
    obtain ⟨⟨i1, i2, i3, i4⟩, hB⟩ := hi
    have g : ∀ o, W.grownBy (W.alloc o) none := fun o => World.grownBy_alloc W o none
    have hlt4 := i4.lt
    refine hK _ _ ((KeepsOthers.alloc _ _).from _) ⟨(Below.refl _ W).alloc hB.size _, fun o ho => (Below.heap_alloc _ _ _ (Array.getElem?_eq_some_iff.1 ho).1).trans ho⟩ ⟨⟨cells_kept i1 (g _) (fun r e => by cases e), cells_kept i2 (g _) (fun r e => by cases e), cells_kept i3 (g _) (fun r e => by cases e), cells_kept i4 (g _) (fun r e => by cases e)⟩, hB.trans ((Below.refl _ W).alloc hB.size _)⟩ ⟨W.heap.size, by omega, World.alloc_heap_new W _, rfl⟩
  case body =>
    rintro l pre x a' W hl ⟨rr, hrr⟩ ⟨⟨i1, i2, i3, i4⟩, hB⟩ ⟨Bx, b1, b2, rfl⟩ hlt
    have hx := x.2
    have hVl := lgRun_length f pre
    have d0 : W.cell? ⟨Bx, 0, none⟩ = some (.int .u8 (f x.1).op) := by simp [World.cell?, b2, Ic.cells]
    have d2 : W.cell? ⟨Bx, 2, none⟩ = some (.int .i64 (f x.1).b) := by simp [World.cell?, b2, Ic.cells]
    have d3 : W.cell? ⟨Bx, 3, none⟩ = some (.int .i64 (f x.1).c) := by simp [World.cell?, b2, Ic.cells]
    have dw := i2.cell
    have dx := i1.cell (j := x.1) (by omega)
    have df := i1.frozen x.1
    have dn := i1.cell (j := x.1 + 1) (by omega)
    have fin : ∀ W1, (W = W1 ∨ W.drew = W1) → ∀ v, v = lgVal (f x.1) (lgRun f pre) x.1 → ∀ a', ownPostG W0.heap.size (Kq w.heap.size (w.heap.size + 1 + 1 + 1)) (fun pre W => (RowZ W (w.heap.size + 1) 3 (lgRun f pre) ∧ Boxed W (w.heap.size + 1 + 1) 28 (.slice (some ⟨w.heap.size + 1, 0, none⟩) (len + 1) (len + 1)) ∧ W.heap[w.heap.size]? = some (.cells #[.int .i64 r, .slice a1 len cap, .slice a2 len2 cap2] 30 (0, 0)) ∧ Boxed W (w.heap.size + 1 + 1 + 1) 27 (.slice a1 len cap)) ∧ Below w.heap.size w W)
        (fun _ _ _ => False) (pre ++ [x]) W .normal a' (W1.setCell ⟨w.heap.size + 1, x.1, none⟩ (.int .i64 v)) := fun W1 hW1 v hv a' => by
      have hh : W1.heap = W.heap := by rcases hW1 with rfl | rfl <;> rfl
      have hK1 : KeepsOthers W W1 := by rcases hW1 with rfl | rfl <;> first | exact KeepsOthers.refl _ | exact KeepsOthers.drew _
      have hB1 : Below w.heap.size W W1 := by rcases hW1 with rfl | rfl <;> first | exact Below.refl _ _ | exact (Below.refl _ _).drew
      have hs : ∀ k, k ≠ w.heap.size + 1 → (W1.setCell ⟨w.heap.size + 1, x.1, none⟩ (.int .i64 v)).heap[k]? = W.heap[k]? := fun k hk => by rw [← hh]; exact Below.heap_setCell _ _ _ k hk
      refine ⟨(hK1.trans (KeepsOthers.setCell _ _ _)).from _, ⟨hB1.setCell (p := ⟨w.heap.size + 1, x.1, none⟩) (Nat.le_succ _) _, fun o ho => (hs _ (by omega)).trans ho⟩, ⟨?_, (hs _ (by omega)).trans i2, (hs _ (by omega)).trans i3, (hs _ (by omega)).trans i4⟩, (hB.trans hB1).setCell (p := ⟨w.heap.size + 1, x.1, none⟩) (Nat.le_succ _) _⟩
      rw [lgRun_snoc]
      subst hv
      exact RowZ.set (show W1.heap[_]? = _ by rw [hh]; exact i1) _ _
    by_cases h30 : (f x.1).op = 30
    · gi_wp2
      exact fin _ (.inl rfl) 1 (by simp [lgVal, h30]) _
    by_cases h21 : (f x.1).op = 21
    · gi_wp2
      exact fin _ (.inl rfl) 1 (by simp [lgVal, h21]) _
    by_cases hT : (f x.1).op = 26 ∨ (f x.1).op = 27 ∨ (f x.1).op = 31 ∨ (f x.1).op = 29
    · obtain ⟨⟨eb0, eb1⟩, ec0, ec1⟩ := hR x.1 hx hT
      have eb := i1.cell (j := (f x.1).b.toNat) (by omega)
      have ec := i1.cell (j := (f x.1).c.toNat) (by omega)
      have hlv : lgVal (f x.1) (lgRun f pre) x.1 = IntKind.i64.wrap (1 + max (vAt (lgRun f pre) (f x.1).b) (vAt (lgRun f pre) (f x.1).c)) := by rw [lgVal, if_neg (by omega), if_pos hT]
      have hl1 : (x.1 : Int) < (len : Int) + 1 := by omega
      have hl2 : x.1 < len + 1 := by omega
      have hl3 : (0 : Int) ≤ (x.1 : Int) := by omega
      have hl4 : ¬ (len + 1 ≤ x.1) := by omega
      rcases hT with h | h | h | h
      all_goals
        gi_wp2
        refine quiet_draw (by kernel_rfl) [41, 42, 43, 44, 45, 46, 47, 48, 49, 50, 51, 52, 53, 54, 55] [(41, .slice (some ⟨w.heap.size + 1, 0, none⟩) (len + 1) (len + 1)), (42, .int .i64 (x.1 : Int)), (43, .slice (some ⟨w.heap.size + 1, 0, none⟩) (len + 1) (len + 1)), (44, .pointer (some ⟨Bx, 2, none⟩)), (45, .int .i64 (f x.1).b), (46, .pointer (some ⟨w.heap.size + 1, (f x.1).b.toNat, none⟩)), (47, .int .i64 ((lgRun f pre).getD (f x.1).b.toNat 0)), (48, .slice (some ⟨w.heap.size + 1, 0, none⟩) (len + 1) (len + 1)), (49, .pointer (some ⟨Bx, 3, none⟩)), (50, .int .i64 (f x.1).c), (51, .pointer (some ⟨w.heap.size + 1, (f x.1).c.toNat, none⟩)), (52, .int .i64 ((lgRun f pre).getD (f x.1).c.toNat 0)), (53, .int .i64 (max (vAt (lgRun f pre) (f x.1).b) (vAt (lgRun f pre) (f x.1).c))), (54, .int .i64 (lgVal (f x.1) (lgRun f pre) x.1)), (55, .pointer (some ⟨w.heap.size + 1, x.1, none⟩))] rfl rfl (by decide) (by kernel_rfl) ?_ ?_
        · intro w1 hw1
          have hce : ∀ p, w1.cell? p = W.cell? p := fun p => by rw [← hw1]; rfl
          have k0 := (hce _).trans dw
          have k2 := (hce _).trans d2
          have k3 := (hce _).trans d3
          have kb := (hce _).trans eb
          have kc := (hce _).trans ec
          clear hw1
          simp only [putAll, List.foldl_cons, List.foldl_nil, Act.put, List.setIfInBounds_toArray, List.set_cons_succ, List.set_cons_zero, List.map_cons, List.map_nil, ReadsAll]
          repeat' apply And.intro
          all_goals (try (simp [go_sem, k0, k2, k3, kb, kc]; done))
          · simp [go_sem, k0, k2, k3, kb, kc]
            exact fun h => absurd (h eb0) (by omega)
          · simp [go_sem, k0, k2, k3, kb, kc]
            exact fun h => absurd (h ec0) (by omega)
          · simp [go_sem, k0, k2, k3, kb, kc, vAt]
            split <;> omega
          · simp [go_sem, hlv]
          · simp [go_sem, k0, k2, k3, kb, kc]
            exact fun h => absurd h (by omega)
        · intro o w1 hw1 ho
          have kx := (show w1.cell? _ = W.cell? ⟨w.heap.size + 1, x.1, none⟩ by rw [← hw1]; rfl).trans dx
          have kf := (show w1.frozen? _ = W.frozen? ⟨w.heap.size + 1, x.1, none⟩ by rw [← hw1]; rfl).trans df
          simp only [List.getElem?_cons_succ, List.getElem?_cons_zero, List.length_cons, List.length_nil, Nat.reduceAdd, Option.some.injEq] at ho
          subst ho
          simp only [putAll, List.foldl_cons, List.foldl_nil, Act.put, List.setIfInBounds_toArray, List.set_cons_succ, List.set_cons_zero]
          gi_wp2
          exact fin _ (.inr hw1) _ (by rw [hlv, w64_eq]) _
    · have hlv : lgVal (f x.1) (lgRun f pre) x.1 = IntKind.i64.wrap (1 + vAt (lgRun f pre) ((x.1 : Int) + 1)) := by rw [lgVal, if_neg (by omega), if_neg hT]
      have h26 : (f x.1).op ≠ 26 := fun e => hT (.inl e)
      have h27 : (f x.1).op ≠ 27 := fun e => hT (.inr (.inl e))
      have h31 : (f x.1).op ≠ 31 := fun e => hT (.inr (.inr (.inl e)))
      have h29 : (f x.1).op ≠ 29 := fun e => hT (.inr (.inr (.inr e)))
      gi_wp2
      refine quiet_draw (by kernel_rfl) [21, 22, 23, 24, 25, 26, 27, 28, 29] [(21, .slice (some ⟨w.heap.size + 1, 0, none⟩) (len + 1) (len + 1)), (22, .int .i64 (x.1 : Int)), (23, .slice (some ⟨w.heap.size + 1, 0, none⟩) (len + 1) (len + 1)), (24, .int .i64 (x.1 : Int)), (25, .int .i64 ((x.1 : Int) + 1)), (26, .pointer (some ⟨w.heap.size + 1, x.1 + 1, none⟩)), (27, .int .i64 ((lgRun f pre).getD (x.1 + 1) 0)), (28, .int .i64 (lgVal (f x.1) (lgRun f pre) x.1)), (29, .pointer (some ⟨w.heap.size + 1, x.1, none⟩))] rfl rfl (by decide) (by kernel_rfl) ?_ ?_
      · intro w1 hw1
        have hce : ∀ p, w1.cell? p = W.cell? p := fun p => by rw [← hw1]; rfl
        have k0 := (hce _).trans dw
        have kn := (hce _).trans dn
        clear hw1
        simp only [putAll, List.foldl_cons, List.foldl_nil, Act.put, List.setIfInBounds_toArray, List.set_cons_succ, List.set_cons_zero, List.map_cons, List.map_nil, ReadsAll]
        repeat' apply And.intro
        all_goals (try (simp [go_sem, k0, kn]; done))
        · simp [go_sem, k0, kn]
          exact i64_same (by omega) (by omega)
        · simp [go_sem, k0, kn]
          exact fun h => absurd h (by omega)
        · simp [go_sem, k0, kn]
          rw [hlv]
          simp [vAt, show ((x.1 : Int) + 1).toNat = x.1 + 1 by omega]
        · simp [go_sem, k0, kn]
          exact fun h => absurd h (by omega)
      · intro o w1 hw1 ho
        have kx := (show w1.cell? _ = W.cell? ⟨w.heap.size + 1, x.1, none⟩ by rw [← hw1]; rfl).trans dx
        have kf := (show w1.frozen? _ = W.frozen? ⟨w.heap.size + 1, x.1, none⟩ by rw [← hw1]; rfl).trans df
        simp only [List.getElem?_cons_succ, List.getElem?_cons_zero, List.length_cons, List.length_nil, Nat.reduceAdd, Option.some.injEq] at ho
        subst ho
        simp only [putAll, List.foldl_cons, List.foldl_nil, Act.put, List.setIfInBounds_toArray, List.set_cons_succ, List.set_cons_zero]
        gi_wp2
        exact fin _ (.inr hw1) _ (by rw [hlv, w64_eq]) _
  case done =>
    rintro D ys W hD rfl ⟨⟨i1, i2, i3, i4⟩, hB⟩ hK
    have hVl := lgRun_length f (revs len)
    have dc : W.cell? ⟨w.heap.size, 2, none⟩ = some (.slice a2 len2 cap2) := by simp [World.cell?, i3]
    have dw := i2.cell
    rcases hS.below hB with ⟨he, rfl⟩ | ⟨b, off, cap3, he, hb, hcs⟩
    · cases he
      gi_wp2
      gi_loopw [59, 4] (fun i m wr => i = .int .i64 0 ∧ m = .int .i64 0 ∧ wr = W) (fun _ _ _ => 0)
      case atStart => exact ⟨rfl, rfl, rfl⟩
      case round =>
        obtain ⟨rfl, rfl, rfl⟩ := hrel
        gi_wp2
        refine ⟨by simp, .inl ⟨_, _, rfl, run_takeDeferred hK, ?_⟩⟩
        exact ⟨_, results_tmp rfl _ _ _, rfl, hB.trans (belowK_b (w := w) (Nat.le_refl _) _ D _ _ (by omega) hK rfl rfl)⟩
    · cases he
      gi_wp2
      gi_loopw [59, 4] (fun i m wr => ∃ k : Nat, k ≤ starts.length ∧ i = .int .i64 (k : Int) ∧ m = .int .i64 (lgMost (lgRun f (revs len)) (starts.take k)) ∧ wr = W) (fun i _ _ => starts.length - (intOf i).toNat)
      case atStart => exact ⟨0, Nat.zero_le _, rfl, rfl, rfl⟩
      case round =>
        obtain ⟨k, hk, rfl, rfl, rfl⟩ := hrel
        by_cases hlt : k < starts.length
        · have hck := hcs k hlt
          have hgk : starts.getD k 0 = starts[k] := by rw [List.getD_eq_getElem?_getD, List.getElem?_eq_getElem hlt]; rfl
          rw [hgk] at hck
          obtain ⟨s0, s1⟩ := hSt starts[k] (List.getElem_mem hlt)
          have hcv := i1.cell (j := starts[k].toNat) (by omega)
          have hmk : lgMost (lgRun f (revs len)) (starts.take (k + 1)) = max (lgMost (lgRun f (revs len)) (starts.take k)) ((lgRun f (revs len)).getD starts[k].toNat 0) := by
            rw [List.take_succ_eq_append_getElem hlt, lgMost, List.foldl_append]; rfl
          have hwk : wrap64 ((k : Int) + 1) = ((k + 1 : Nat) : Int) := wrap_succ (Nat.lt_of_lt_of_le hlt hls)
          have hme : starts.length - (k + 1) < starts.length - k := Nat.sub_lt_sub_left hlt (Nat.lt_succ_self k)
          gi_wp2
          rw [hwk]
          exact ⟨⟨k + 1, hlt, rfl, by rw [hmk, max_if]; rfl, trivial⟩, hme⟩
        · obtain rfl : k = starts.length := by omega
          rw [List.take_of_length_le (Nat.le_refl _)]
          gi_wp2
          refine ⟨by simp, .inl ⟨_, _, rfl, run_takeDeferred hK, ?_⟩⟩
          exact ⟨_, results_tmp rfl _ _ _, rfl, hB.trans (belowK_b (w := w) (Nat.le_refl _) _ D _ _ (by omega) hK rfl rfl)⟩
  case stop =>
    rintro D c pre W _ _ h _
    exact h.elim
end Go.Proofs.YtgpmlbkhjpdebaaGreat
