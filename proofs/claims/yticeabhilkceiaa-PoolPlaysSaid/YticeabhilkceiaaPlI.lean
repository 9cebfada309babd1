/- PoolPlays: the law's variables and memory. -/
import Derived.Test.YticeabhilkceiaaPlH
import Derived.Test.YticeabhilkceiaaAmGuestV
import Derived.Test.YticeabhilkceiaaAmB
namespace Go.Proofs.Yticeabhilkceiaa
open Go.RowKit
set_option linter.unusedSimpArgs false
set_option linter.unusedVariables false
set_option maxRecDepth 100000

theorem awake12 (w : World) : Calls Try.prog 6 #[] w fun e w' => e = .returned (.bool true) ∧ Below w.heap.size w w' :=
  true_of_am (by kernel_rfl) 60 6 [] rfl (by kernel_rfl) w
def O12 : Helps := flatHelp 6 (.bool true)
theorem O12_sound : CallSound Try.prog [] (helpFn O12) := flatHelp_sound rfl awake12
theorem clear12 : Clear O12 := fun f hf => by
  have h : f ≠ 6 := fun e => hf (by rw [e]; decide)
  unfold O12 flatHelp
  rw [show Nat.beq f 6 = false from by
    cases e : Nat.beq f 6 with
    | false => rfl
    | true => exact absurd (Nat.eq_of_beq_eq_true e) h]; rfl
theorem awake12_ok {n : Nat} {o : Tr AObj} {nx : Nat} {lg : List Nat} : oCall Try.prog [] O12 (n + 1) 6 [] ⟨o, nx, lg⟩ = some (.bool true, ⟨o, nx, lg⟩) := rfl
/-! ### which part of the code -/
def sqL : Code → Code
  | .seq a _ => a
  | c => c
def sqR : Code → Code
  | .seq _ b => b
  | c => c
def blkIn : Code → Code
  | .block _ b => b
  | c => c
def lpIn : Code → Code
  | .loop b => b
  | c => c
def cdT : Code → Code
  | .cond _ a _ => a
  | c => c
def cdF : Code → Code
  | .cond _ _ b => b
  | c => c
def bodyOf (f : Func) : Code := match f.body with
  | some c => c
  | none => .skip
def plW (f : Func) : Code := sqR (sqR (sqR (sqR (bodyOf f))))
def plRB (f : Func) : Code := blkIn (sqL (sqR (lpIn (blkIn (sqR (sqL (plW f)))))))
def plSW (f : Func) : Code := blkIn (sqR (sqL (sqR (sqR (plRB f)))))
def plC1 (f : Func) : Code := cdT (sqR (plSW f))
def plN1 (f : Func) : Code := cdF (sqR (plSW f))
def plC2 (f : Func) : Code := cdT (sqR (plN1 f))
def plN2 (f : Func) : Code := cdF (sqR (plN1 f))
def plC3 (f : Func) : Code := cdT (sqR (plN2 f))
def plN3 (f : Func) : Code := cdF (sqR (plN2 f))
def plC4 (f : Func) : Code := cdT (sqR (plN3 f))
def plTail (f : Func) : Code := sqR (sqR (sqR (plRB f)))
/-! ### the numbers that the law is handed -/
theorem in_cells3 (zs : List (List Int)) (h : ∀ z ∈ zs, z.length = 3) {i : Nat} (hi : i < zs.length) : ∃ a b c : Int, cut (intCells [.i64, .i64, .i64] zs) (i * 3) 3 = some [Value.int .i64 a, .int .i64 b, .int .i64 c] := by
  have e3 : ∀ z : List Int, z.length = 3 → ∃ a b c, z = [a, b, c] := fun z hz => by
    rcases z with _ | ⟨a, _ | ⟨b, _ | ⟨c, _ | ⟨d, t⟩⟩⟩⟩ <;> simp at hz
    exact ⟨a, b, c, rfl⟩
  have hlen : ∀ l : List (List Int), (∀ z ∈ l, z.length = 3) → (intCells [.i64, .i64, .i64] l).length = l.length * 3 := fun l => by
    induction l with
    | nil => intro _; rfl
    | cons z l ih =>
      intro hl
      obtain ⟨a, b, c, rfl⟩ := e3 z (hl z (by simp))
      have := ih fun z hz => hl z (by simp [hz])
      have e : intCells [.i64, .i64, .i64] ([a, b, c] :: l) = [Value.int .i64 a, .int .i64 b, .int .i64 c] ++ intCells [.i64, .i64, .i64] l := by simp only [intCells, List.flatMap_cons]; rfl
      rw [e, List.length_append, this]
      simp only [List.length_cons, List.length_nil]; omega
  obtain ⟨a, b, c, hz⟩ := e3 zs[i] (h _ (List.getElem_mem hi))
  refine ⟨a, b, c, cut_in rfl (intCells [.i64, .i64, .i64] (zs.take i)) (intCells [.i64, .i64, .i64] (zs.drop (i + 1))) ?_ ?_⟩
  · rw [hlen _ fun z hz => h z (List.mem_of_mem_take hz), List.length_take, Nat.min_eq_left (by omega)]
  · have e : zs = zs.take i ++ ([a, b, c] :: zs.drop (i + 1)) := by
      conv => lhs; rw [← List.take_append_drop i zs, List.drop_eq_getElem_cons hi, hz]
    conv => lhs; rw [e]
    simp only [intCells, List.flatMap_append, List.flatMap_cons]
    rfl
/-! ### the state -/
structure PIn (z : List Value) (kw : Nat) (o : Tr AObj) (nx ip : Nat) (a b : Option Nat) (st : PS) (ra rb : Option Nat) (ids sizes : List Int) : Prop where
  pool : PoolIn o nx ip a b st
  wrow : o.get kw = some (.row [.int .i64 st.bound, .slice (slA ra) ids.length 0, .slice (slA rb) sizes.length 0] 29 0 true)
  lra : RIn o nx ra ids
  lrb : RIn o nx rb sizes
  guest : o.get 1 = some (.row z 0 1 false)
  ltg : 1 < nx
  ltw : kw < nx
  out : ∀ x, (x = 1 ∨ x = kw ∨ ra = some x ∨ rb = some x) → ¬ PMine ip a b x
  kw1 : kw ≠ 1
  kwa : ra ≠ some kw
  kwb : rb ≠ some kw
section
variable {z : List Value} {kw : Nat} {o o' : Tr AObj} {nx nx' ip : Nat} {a b : Option Nat} {st : PS} {ra rb : Option Nat} {ids sizes : List Int}
theorem PIn.more (h : PIn z kw o nx ip a b st ra rb ids sizes) (hn : nx ≤ nx') (hk : ∀ x, x < nx → o'.get x = o.get x) : PIn z kw o' nx' ip a b st ra rb ids sizes := by
  have a1 := h.ltg; have a2 := h.ltw
  exact ⟨h.pool.more hn hk, (hk _ a2).trans h.wrow, h.lra.keep hn fun j e => hk j (h.lra.lt e), h.lrb.keep hn fun j e => hk j (h.lrb.lt e), (hk _ a1).trans h.guest, by omega, by omega, h.out, h.kw1, h.kwa, h.kwb⟩
/-- the pool is turned, and may be another one -/
theorem PIn.turn (h : PIn z kw o nx ip a b st ra rb ids sizes) {ip' : Nat} {a' b' : Option Nat} {st' : PS} (hn : nx ≤ nx') (hp : PoolIn o' nx' ip' a' b' st') (hbd : st'.bound = st.bound) (hk : ∀ x, x < nx → ¬ PMine ip a b x → o'.get x = o.get x) (hm : ∀ x, PMine ip' a' b' x → PMine ip a b x ∨ nx ≤ x) : PIn z kw o' nx' ip' a' b' st' ra rb ids sizes := by
  have a1 := h.ltg; have a2 := h.ltw
  exact ⟨hp, by rw [hk _ a2 (h.out _ (by simp)), hbd]; exact h.wrow, h.lra.keep hn fun j e => hk j (h.lra.lt e) (h.out j (by simp [e])), h.lrb.keep hn fun j e => hk j (h.lrb.lt e) (h.out j (by simp [e])), (hk _ a1 (h.out _ (by simp))).trans h.guest, by omega, by omega,
    fun x hx hm' => (hm x hm').elim (h.out x hx) fun hge => by
      rcases hx with rfl | rfl | e | e
      · omega
      · omega
      · have := h.lra.lt e; omega
      · have := h.lrb.lt e; omega, h.kw1, h.kwa, h.kwb⟩
theorem mine_turn {i : Nat} {a' b' : Option Nat} (ha : a' = a ∨ ∃ k, a' = some k ∧ nx ≤ k) (hb : b' = b ∨ ∃ k, b' = some k ∧ nx ≤ k) : ∀ x, PMine i a' b' x → PMine i a b x ∨ nx ≤ x := by
  rintro x (rfl | e | e)
  · exact .inl (.inl rfl)
  · rcases ha with rfl | ⟨k, rfl, hk⟩
    · exact .inl (.inr (.inl e))
    · cases e; exact .inr hk
  · rcases hb with rfl | ⟨k, rfl, hk⟩
    · exact .inl (.inr (.inr e))
    · cases e; exact .inr hk
/-- the document's pool is another one -/
theorem PIn.ref (h : PIn z kw o nx ip a b st ra rb ids sizes) {o1 : Tr AObj} {nx1 : Nat} {ra' rb' : Option Nat} {ids' sizes' : List Int} (hn : nx ≤ nx1) (hn' : nx1 ≤ nx') (ha : RIn o1 nx1 ra' ids') (hb : RIn o1 nx1 rb' sizes') (hk1 : ∀ x, x < nx → o1.get x = o.get x) (hnew : ∀ x, (ra' = some x ∨ rb' = some x) → (ra = some x ∨ rb = some x) ∨ nx ≤ x) (hw : o'.get kw = some (.row [.int .i64 st.bound, .slice (slA ra') ids'.length 0, .slice (slA rb') sizes'.length 0] 29 0 true)) (hk : ∀ x, x < nx1 → x ≠ kw → o'.get x = o1.get x) : PIn z kw o' nx' ip a b st ra' rb' ids' sizes' := by
  have a1 := h.ltg; have a2 := h.ltw
  have nkw : ∀ x, (ra' = some x ∨ rb' = some x) → x ≠ kw := fun x hx e => by
    rcases hnew x hx with h2 | h2
    · rcases h2 with h2 | h2
      · exact h.kwa (by rw [h2, e])
      · exact h.kwb (by rw [h2, e])
    · omega
  have far : ∀ x, x < nx → x ≠ kw → o'.get x = o.get x := fun x hx hne => (hk x (by omega) hne).trans (hk1 x hx)
  refine ⟨h.pool.keep (by omega) fun x hx => far x (h.pool.mine_lt hx) fun e => h.out kw (by simp) (by rw [← e]; exact hx), hw, ha.keep (by omega) fun j e => hk j (ha.lt e) (nkw j (.inl e)), hb.keep (by omega) fun j e => hk j (hb.lt e) (nkw j (.inr e)), (far 1 a1 h.kw1.symm).trans h.guest, by omega, by omega, fun x hx => ?_, h.kw1, fun e => nkw kw (.inl e) rfl, fun e => nkw kw (.inr e) rfl⟩
  rcases hx with hx | hx | hx
  · exact h.out x (.inl hx)
  · exact h.out x (.inr (.inl hx))
  · rcases hnew x hx with h2 | h2
    · exact h.out x (.inr (.inr h2))
    · intro hm
      have := h.pool.mine_lt hm
      omega
end
structure PEnv (kw : Nat) (oa : Option Addr) (len ip i : Nat) (e : Tr Value) : Prop where
  g1 : e.get 1 = some (.slice oa len 0)
  g5 : e.get 5 = some (.pointer (some ⟨ip, 0, none⟩))
  g7 : e.get 7 = some (.pointer (some ⟨kw, 0, none⟩))
  g9 : e.get 9 = some (.int .i64 (.ofNat i))
theorem PEnv.turn {kw : Nat} {oa : Option Addr} {len ip i : Nat} {e e' : Tr Value} (E : PEnv kw oa len ip i e) (h1 : e'.get 1 = e.get 1) (h5 : e'.get 5 = e.get 5) (h7 : e'.get 7 = e.get 7) (h9 : e'.get 9 = e.get 9) : PEnv kw oa len ip i e' := ⟨h1.trans E.g1, h5.trans E.g5, h7.trans E.g7, h9.trans E.g9⟩
/-- i rounds are behind, r have turned something -/
def PSt (z : List Value) (kw : Nat) (oa : Option Addr) (len i r : Nat) (e : Tr Value) (H : AHeap) : Prop :=
  ∃ o nx lg ip a b st ra rb, H = ⟨o, nx, lg⟩ ∧ PIn z kw o nx ip a b st ra rb (idsP st) (pres st.sizes) ∧ Good st ∧ st.sizes.length ≤ r ∧ PEnv kw oa len ip i e
/-- the same, while a call's numbers lie in block k10 -/
def PSt1 (z : List Value) (kw : Nat) (oa : Option Addr) (len i r : Nat) (kd id size : Int) (e : Tr Value) (H : AHeap) : Prop :=
  ∃ o nx lg ip a b st ra rb k10, H = ⟨o, nx, lg⟩ ∧ PIn z kw o nx ip a b st ra rb (idsP st) (pres st.sizes) ∧ Good st ∧ st.sizes.length ≤ r ∧ PEnv kw oa len ip i e ∧ e.get 10 = some (.pointer (some ⟨k10, 0, none⟩)) ∧ o.get k10 = some (.row [.int .i64 kd, .int .i64 id, .int .i64 size] 34 0 true) ∧ k10 < nx ∧ ¬ PMine ip a b k10 ∧ k10 ≠ kw
/-- .. and both have answered with the same error -/
def PSt2 (z : List Value) (kw : Nat) (oa : Option Addr) (len i r : Nat) (kd id size : Int) (e : Tr Value) (H : AHeap) : Prop :=
  PSt1 z kw oa len i r kd id size e H ∧ ∃ x, e.get 11 = some (.int .i64 x) ∧ e.get 12 = some (.int .i64 x)
end Go.Proofs.Yticeabhilkceiaa
