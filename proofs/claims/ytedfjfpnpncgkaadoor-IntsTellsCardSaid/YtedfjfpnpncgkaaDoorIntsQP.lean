/- Ints: the document's reading of a text is the program's: plain laws, no program in sight. -/
import Derived.Test.YtedfjfpnpncgkaaDoorIntsPP
namespace Go.Proofs.YtedfjfpnpncgkaaDoor
open Go.RowKit
set_option linter.unusedSimpArgs false
set_option linter.unusedVariables false

/-- the document's number below 0, as far as it goes (told without its sign) -/
def refDec : Nat → List UInt8 → Option Nat
  | acc, [] => some acc
  | acc, c :: r => if digitB c = true ∧ acc * 10 + (c.toNat - 48) ≤ 9223372036854775808 then refDec (acc * 10 + (c.toNat - 48)) r else none
def refS (minus : Bool) (rest : List UInt8) : Int × Bool :=
  if isX rest then (match hexV 0#64 (rest.drop 2) with
    | some A => (cond minus (-A).toInt A.toInt, decide (rest.drop 2 ≠ []))
    | none => (0, false))
  else match refDec 0 rest with
    | some u => if rest = [] ∨ (minus = false ∧ u = 9223372036854775808) then (0, false) else (cond minus (-(u : Int)) u, true)
    | none => (0, false)
theorem dec_grow : ∀ (l : List UInt8) (acc : Nat), 9223372036854775808 < acc → l.all digitB = true → Lib.parseUintM M64 acc l = .range ∨ ∃ u, 9223372036854775808 < u ∧ Lib.parseUintM M64 acc l = .ok u
  | [], acc, h, _ => .inr ⟨acc, h, rfl⟩
  | c :: r, acc, h, ha => by
    rw [List.all_cons, Bool.and_eq_true] at ha
    have hc := (digit_facts ha.1).2.2.2.2
    rw [Lib.parseUintM, if_pos hc, if_pos (by omega)]
    exact .inl rfl
theorem dec_same : ∀ (l : List UInt8) (acc : Nat), acc ≤ 9223372036854775808 → l.all digitB = true →
    (∃ u, refDec acc l = some u ∧ u ≤ 9223372036854775808 ∧ Lib.parseUintM M64 acc l = .ok u) ∨ (refDec acc l = none ∧ (Lib.parseUintM M64 acc l = .range ∨ ∃ u, 9223372036854775808 < u ∧ Lib.parseUintM M64 acc l = .ok u))
  | [], acc, h, _ => .inl ⟨acc, rfl, h, rfl⟩
  | c :: r, acc, h, ha => by
    rw [List.all_cons, Bool.and_eq_true] at ha
    have hc := (digit_facts ha.1).2.2.2.2
    have hM : M64 = 18446744073709551615 := rfl
    rw [refDec, Lib.parseUintM, if_pos hc]
    by_cases h1 : acc * 10 + (c.toNat - 48) ≤ 9223372036854775808
    · rw [if_pos ⟨ha.1, h1⟩, if_neg (by omega), if_neg (by omega)]
      exact dec_same r _ h1 ha.2
    · rw [if_neg (by simp [h1])]
      refine .inr ⟨rfl, ?_⟩
      by_cases h2 : 1844674407370955162 ≤ acc
      · rw [if_pos h2]; exact .inl rfl
      · rw [if_neg h2]
        by_cases h3 : M64 < acc * 10 + (c.toNat - 48)
        · rw [if_pos h3]; exact .inl rfl
        · rw [if_neg h3]
          exact dec_grow r _ (by omega) ha.2
theorem refDec_all : ∀ (l : List UInt8) (acc u : Nat), refDec acc l = some u → l.all digitB = true
  | [], _, _, _ => rfl
  | c :: r, acc, u, h => by
    rw [refDec] at h
    split at h
    · rename_i h1
      rw [List.all_cons, h1.1, Bool.true_and]
      exact refDec_all r _ u h
    · cases h
theorem decS_ref (sign : List UInt8) (hs : sign = [] ∨ sign = [45] ∨ sign = [43]) (rest : List UInt8) (hx : isX rest = false) : numS sign rest = refS (decide (sign = [45])) rest := by
  unfold numS refS
  rw [hx]
  simp only [Bool.false_eq_true, if_false]
  unfold decS
  by_cases ha : rest.all digitB = true
  · rw [if_pos ha]
    have hp := parseInt_sign sign hs rest ha
    by_cases he : rest = []
    · subst he
      have hr : refDec 0 [] = some 0 := rfl
      rw [hr]
      simp only [true_or, if_true] at hp ⊢
      rw [parseR_of, hp]; rfl
    · rw [if_neg he] at hp
      have hm : (decide (sign = [45]) = false) ↔ sign ≠ [45] := by simp
      rcases dec_same rest 0 (by omega) ha with ⟨u, h1, h2, h3⟩ | ⟨h1, h2 | ⟨u, h2, h3⟩⟩
      · rw [h3] at hp
        simp only at hp
        rw [h1]
        by_cases hu : sign = [45]
        · rw [if_neg (by simp [hu]), if_neg (by omega), if_pos hu] at hp
          have : ¬ (rest = [] ∨ (decide (sign = [45]) = false ∧ u = 9223372036854775808)) := by simp [he, hu]
          simp only [if_neg this]
          rw [parseR_of, hp]; simp only [cond, decide_eq_true hu]
        · by_cases hl : u = 9223372036854775808
          · rw [if_pos ⟨hu, by omega⟩] at hp
            have : (rest = [] ∨ (decide (sign = [45]) = false ∧ u = 9223372036854775808)) := .inr ⟨decide_eq_false hu, hl⟩
            simp only [if_pos this]
            rw [parseR_of, hp]; rfl
          · rw [if_neg (by omega), if_neg (by simp [hu]), if_neg hu] at hp
            have : ¬ (rest = [] ∨ (decide (sign = [45]) = false ∧ u = 9223372036854775808)) := by simp [he, hl]
            simp only [if_neg this]
            rw [parseR_of, hp]; simp only [cond, decide_eq_false hu]
      · rw [h2] at hp
        simp only at hp
        rw [h1]
        rw [parseR_of, hp]; rfl
      · rw [h3] at hp
        simp only at hp
        rw [h1]
        by_cases hu : sign = [45]
        · rw [if_neg (by simp [hu]), if_pos ⟨hu, h2⟩] at hp
          rw [parseR_of, hp]; rfl
        · rw [if_pos ⟨hu, by omega⟩] at hp
          rw [parseR_of, hp]; rfl
  · rw [if_neg ha]
    have : refDec 0 rest = none := by
      cases h : refDec 0 rest with
      | none => rfl
      | some u => exact absurd (refDec_all rest 0 u h) ha
    rw [this]
theorem num_ref (sign : List UInt8) (hs : sign = [] ∨ sign = [45] ∨ sign = [43]) (rest : List UInt8) : numS sign rest = refS (decide (sign = [45])) rest := by
  cases hx : isX rest with
  | false => exact decS_ref sign hs rest hx
  | true =>
    unfold numS refS
    rw [hx]
    simp only [if_true]
    cases hh : hexV 0#64 (rest.drop 2) with
    | none => rfl
    | some A =>
      simp only
      by_cases he : rest.drop 2 = []
      · rw [if_pos he]
        rw [he] at hh
        simp only [hexV, Option.some.injEq] at hh
        subst hh
        have e1 : decide (rest.drop 2 ≠ []) = false := by rw [he]; rfl
        rw [e1]
        cases decide (sign = [45]) <;> rfl
      · rw [if_neg he, decide_eq_true he]
        by_cases hu : sign = [45]
        · rw [if_pos hu, decide_eq_true hu]; rfl
        · rw [if_neg hu, decide_eq_false hu]; rfl
/-- what the document reads, behind the blanks -/
def refSign : List UInt8 → Int × Bool
  | [] => refS false []
  | c :: r => if isSign c then refS (decide (c = 45)) r else refS false (c :: r)
theorem sign_ref (l : List UInt8) : signS l = refSign l := by
  cases l with
  | nil => exact num_ref [] (.inl rfl) []
  | cons c r =>
    show (if isSign c = true then numS [c] r else numS [] (c :: r)) = (if isSign c = true then refS (decide (c = 45)) r else refS false (c :: r))
    by_cases h : isSign c = true
    · rw [if_pos h, if_pos h]
      have hc : c = 45 ∨ c = 43 := by
        unfold isSign at h
        rw [Bool.or_eq_true, decide_eq_true_eq, decide_eq_true_eq] at h
        exact h
      rw [num_ref [c] (by rcases hc with rfl | rfl <;> simp) r]
      congr 1
      simp
    · rw [if_neg h, if_neg h]
      exact num_ref [] (.inl rfl) (c :: r)

end Go.Proofs.YtedfjfpnpncgkaaDoor
