/- Texts: the chapter's functions in the machine; which text is ahead: plain laws. -/
import Derived.Test.YtpncjpgjmpemiaaDoorTextLaid
import Derived.Test.YtpncjpgjmpemiaaDoorTextB
namespace Go.Proofs.YtpncjpgjmpemiaaDoor
open Go.RowKit
set_option linter.unusedSimpArgs false
set_option linter.unusedVariables false

/-- the two variables are there -/
structure GT (o : Tr AObj) : Prop where
  tab : ∀ nx lg, hasTab ⟨o, nx, lg⟩ = true
  max : ∀ nx lg, hasMax ⟨o, nx, lg⟩ = true
theorem GT_H0 (t : TypeId) (m : Int) : GT (H0T t m).objs := ⟨fun _ _ => by kernel_rfl, fun _ _ => by kernel_rfl⟩
theorem clearT : ClearT O4 := fun f hf => by
  simp only [helpedT, List.mem_cons, List.not_mem_nil, or_false, not_or] at hf
  obtain ⟨h1, h2, h3, h4, h5, h6, h7⟩ := hf
  have hb : ∀ k, f ≠ k → Nat.beq f k = false := fun k hk => by
    cases e : Nat.beq f k with
    | false => rfl
    | true => exact absurd (Nat.eq_of_beq_eq_true e) hk
  simp only [O4, orHelp, OT, encO, textO, awakeOT, hb _ h1, hb _ h2, hb _ h3, hb _ h4, hb _ h5, hb _ h6, hb _ h7, cond, Bool.or_self]
theorem help_at {P : Program} {gs : List Nat} {O : Helps} {n f : Nat} {g : List Value → AHeap → Option (Value × AHeap)} (h : O f = some g) (args : List Value) (H : AHeap) : oCall P gs O (n + 1) f args H = g args H := by simp only [oCall, h]
section
variable {n : Nat} {o : Tr AObj} {nx : Nat} {lg : List Nat}
theorem awake_t (hG : GT o) : oCall Tryd.prog gsT O4 (n + 1) 17 [] ⟨o, nx, lg⟩ = some (.bool true, ⟨o, nx, lg⟩) := by
  rw [help_at (g := awakeHT) rfl]
  unfold awakeHT
  rw [hG.tab, hG.max]; rfl
theorem cmp_t (a b : List UInt8) : oCall Tryd.prog gsT O4 (n + 1) 16 [str a, str b] ⟨o, nx, lg⟩ = some (.int .i64 (Lib.compareBytes a b), ⟨o, nx, lg⟩) := by
  rw [help_at (g := cmpH) rfl]; rfl
theorem small_of {l : List UInt8} (h : l.length ≤ 1000000000) : small l = true := by unfold small; rw [Nat.ble_eq]; exact h
theorem quote_t (hG : GT o) (l : List UInt8) (h : l.length ≤ 1000000000) : oCall Tryd.prog gsT O4 (n + 1) 15 [str l] ⟨o, nx, lg⟩ = some (str (quoteL l), ⟨o, nx, lg⟩) := by
  rw [help_at (g := quoteH) rfl]
  show cond (hasTab ⟨o, nx, lg⟩ && small l) _ none = _
  rw [hG.tab, small_of h]; rfl
theorem unq_t (l : List UInt8) (h : l.length ≤ 1000000000) : oCall Tryd.prog gsT O4 (n + 1) 12 [str l] ⟨o, nx, lg⟩ = some (unqV (unqP l), ⟨o, nx, lg⟩) := by
  rw [help_at (g := unqH) rfl]
  show cond (small l) _ none = _
  rw [small_of h]; rfl
theorem long_t (hG : GT o) (l : List UInt8) (h : l.length ≤ 1000000000) : oCall Tryd.prog gsT O4 (n + 1) 14 [str l] ⟨o, nx, lg⟩ = some (.tuple #[str (longL l).1, .bool (longL l).2], ⟨o, nx, lg⟩) := by
  rw [help_at (g := longH) rfl]
  show cond (hasMax ⟨o, nx, lg⟩ && small l) _ none = _
  rw [hG.max, small_of h]; rfl
end

/-! ### which text is ahead -/
abbrev cmpB := Lib.compareBytes
theorem cmp_cons (a b : UInt8) (l m : List UInt8) : cmpB (a :: l) (b :: m) = if a < b then -1 else if b < a then 1 else cmpB l m := rfl
theorem cmp_self : ∀ l : List UInt8, cmpB l l = 0
  | [] => rfl
  | a :: l => by rw [cmp_cons, if_neg (by simp), if_neg (by simp), cmp_self l]
theorem cmp_swap : ∀ a b : List UInt8, cmpB b a = -cmpB a b
  | [], [] => rfl
  | [], _ :: _ => rfl
  | _ :: _, [] => rfl
  | a :: l, b :: m => by
    rw [cmp_cons, cmp_cons, cmp_swap l m]
    by_cases h : a < b
    · have h' : ¬ b < a := by rw [UInt8.lt_iff_toNat_lt] at h ⊢; omega
      rw [if_neg h', if_pos h, if_pos h]; rfl
    · by_cases h2 : b < a
      · rw [if_pos h2, if_neg h, if_pos h2]
      · rw [if_neg h2, if_neg h, if_neg h, if_neg h2]
theorem cmp_range : ∀ a b : List UInt8, cmpB a b = -1 ∨ cmpB a b = 0 ∨ cmpB a b = 1
  | [], [] => .inr (.inl rfl)
  | [], _ :: _ => .inl rfl
  | _ :: _, [] => .inr (.inr rfl)
  | a :: l, b :: m => by
    rw [cmp_cons]
    split
    · exact .inl rfl
    · split
      · exact .inr (.inr rfl)
      · exact cmp_range l m
theorem cmp_zero : ∀ a b : List UInt8, cmpB a b = 0 ↔ a = b
  | [], [] => ⟨fun _ => rfl, fun _ => rfl⟩
  | [], _ :: _ => ⟨fun h => by revert h; exact (by decide : ¬ ((-1 : Int) = 0)).elim, fun h => by cases h⟩
  | _ :: _, [] => ⟨fun h => by revert h; exact (by decide : ¬ ((1 : Int) = 0)).elim, fun h => by cases h⟩
  | a :: l, b :: m => by
    rw [cmp_cons]
    by_cases h : a < b
    · rw [if_pos h]
      exact ⟨fun hh => absurd hh (by decide), fun e => by cases e; simp at h⟩
    · rw [if_neg h]
      by_cases h2 : b < a
      · rw [if_pos h2]
        exact ⟨fun hh => absurd hh (by decide), fun e => by cases e; simp at h2⟩
      · rw [if_neg h2, cmp_zero l m]
        have e : a = b := UInt8.toNat_inj.1 (by rw [UInt8.lt_iff_toNat_lt] at h h2; omega)
        rw [e]; simp
theorem cmp_trans : ∀ a b c : List UInt8, cmpB a b ≤ 0 → cmpB b c ≤ 0 → cmpB a c ≤ 0 ∧ (cmpB a b < 0 → cmpB a c = -1)
  | [], [], [], _, _ => ⟨Int.le_refl _, fun h => by cases h⟩
  | [], _, _ :: _, _, _ => ⟨show (-1 : Int) ≤ 0 by decide, fun _ => rfl⟩
  | [], _ :: _, [], _, h => by revert h; exact (by decide : ¬ ((1 : Int) ≤ 0)).elim
  | _ :: _, [], _, h, _ => by revert h; exact (by decide : ¬ ((1 : Int) ≤ 0)).elim
  | _ :: _, _ :: _, [], _, h => by revert h; exact (by decide : ¬ ((1 : Int) ≤ 0)).elim
  | a :: l, b :: m, c :: k, h1, h2 => by
    rw [cmp_cons] at h1 h2
    rw [cmp_cons, cmp_cons]
    have ih := cmp_trans l m k
    simp only [UInt8.lt_iff_toNat_lt] at h1 h2 ⊢
    by_cases hab : a.toNat < b.toNat
    · have hac : a.toNat < c.toNat := by
        by_cases hbc : b.toNat < c.toNat
        · omega
        · rw [if_neg hbc] at h2
          by_cases hcb : c.toNat < b.toNat
          · rw [if_pos hcb] at h2; omega
          · omega
      rw [if_pos hac]; exact ⟨by decide, fun _ => rfl⟩
    · rw [if_neg hab] at h1
      by_cases hba : b.toNat < a.toNat
      · rw [if_pos hba] at h1; omega
      · rw [if_neg hba] at h1
        by_cases hbc : b.toNat < c.toNat
        · rw [if_pos (show a.toNat < c.toNat by omega)]; exact ⟨by decide, fun _ => rfl⟩
        · rw [if_neg hbc] at h2
          by_cases hcb : c.toNat < b.toNat
          · rw [if_pos hcb] at h2; omega
          · rw [if_neg hcb] at h2
            rw [if_neg (show ¬ a.toNat < c.toNat by omega), if_neg (show ¬ c.toNat < a.toNat by omega), if_neg hab, if_neg hba]
            exact ih h1 h2
theorem cmp_pre : ∀ c a b : List UInt8, cmpB (c ++ a) (c ++ b) = cmpB a b
  | [], _, _ => rfl
  | x :: c, a, b => by
    rw [List.cons_append, List.cons_append, cmp_cons, if_neg (by simp), if_neg (by simp), cmp_pre c a b]
theorem cmp_app : ∀ a b : List UInt8, b ≠ [] → cmpB a (a ++ b) = -1
  | [], [], h => absurd rfl h
  | [], _ :: _, _ => rfl
  | x :: a, b, h => by
    rw [List.cons_append, cmp_cons, if_neg (by simp), if_neg (by simp), cmp_app a b h]
end Go.Proofs.YtpncjpgjmpemiaaDoor
