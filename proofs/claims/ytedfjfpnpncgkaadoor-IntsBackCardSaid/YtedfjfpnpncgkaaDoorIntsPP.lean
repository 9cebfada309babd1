/- Ints: what a text's number is: plain laws, no program in sight. -/
import Derived.Test.YtedfjfpnpncgkaaDoorIntsB
namespace Go.Proofs.YtedfjfpnpncgkaaDoor
open Go.RowKit
set_option linter.unusedSimpArgs false
set_option linter.unusedVariables false

def trimL (l : List UInt8) : List UInt8 := l.dropWhile spaceB
def trimR (l : List UInt8) : List UInt8 := (l.reverse.dropWhile spaceB).reverse
def hexV : W64 → List UInt8 → Option W64
  | A, [] => some A
  | A, c :: r => if (hexB c).2 then hexV (A * 16#64 + BitVec.ofInt 64 (hexB c).1) r else none
def decS (sign rest : List UInt8) : Int × Bool := if rest.all digitB then cond (parseR ⟨(sign ++ rest).toArray⟩).2 ((parseR ⟨(sign ++ rest).toArray⟩).1, true) (0, false) else (0, false)
def isX (l : List UInt8) : Bool := match l with
  | a :: b :: _ => decide (a = 48) && (decide (b = 120) || decide (b = 88))
  | _ => false
def numS (sign rest : List UInt8) : Int × Bool :=
  if isX rest then (match hexV 0#64 (rest.drop 2) with
    | some A => if rest.drop 2 = [] then (0, false) else (if sign = [45] then (-A).toInt else A.toInt, true)
    | none => (0, false))
  else decS sign rest
def isSign (c : UInt8) : Bool := decide (c = 45) || decide (c = 43)
def signS : List UInt8 → Int × Bool
  | [] => numS [] []
  | c :: r => if isSign c then numS [c] r else numS [] (c :: r)
def parseS (l : List UInt8) : Int × Bool := signS (trimR (trimL l))

/-! ### digits are read back -/
theorem read_digits (M : Nat) (hM : M < 18446744073709551616) : ∀ (u : Nat) (r : List UInt8), u ≤ M → Lib.parseUintM M 0 (Lib.decDigits u ++ r) = Lib.parseUintM M u r := by
  intro u
  induction u using Nat.strongRecOn with
  | _ u ih =>
    intro r hu
    rw [Lib.decDigits]
    by_cases h : u < 10
    · rw [dif_pos h]
      have hc : (UInt8.ofNat (48 + u)).toNat = 48 + u := by rw [UInt8.toNat_ofNat']; omega
      rw [List.cons_append, List.nil_append, Lib.parseUintM, hc, if_pos (by omega), if_neg (by omega), if_neg (by omega)]
      congr 1; omega
    · rw [dif_neg h, List.append_assoc, ih (u / 10) (by omega) _ (by omega)]
      have hc : (UInt8.ofNat (48 + u % 10)).toNat = 48 + u % 10 := by rw [UInt8.toNat_ofNat']; omega
      rw [List.cons_append, List.nil_append, Lib.parseUintM, hc, if_pos (by omega), if_neg (by omega), if_neg (by omega)]
      congr 1; omega
theorem read_noughts (M : Nat) (r : List UInt8) : ∀ z, Lib.parseUintM M 0 (List.replicate z 48 ++ r) = Lib.parseUintM M 0 r
  | 0 => rfl
  | z + 1 => by
    rw [List.replicate_succ, List.cons_append, Lib.parseUintM]
    rw [if_pos (by decide), if_neg (by decide), if_neg (by simp)]
    exact read_noughts M r z
theorem digits_ne (u : Nat) : Lib.decDigits u ≠ [] := by
  rw [Lib.decDigits]; split <;> simp
theorem digitB_of {c : UInt8} (h : 48 ≤ c.toNat ∧ c.toNat ≤ 57) : digitB c = true := by
  unfold digitB withinI
  rw [Bool.and_eq_true, decide_eq_true_eq, decide_eq_true_eq]
  simp only [Int.ofNat_eq_natCast]; omega
theorem digits_all : ∀ u, (Lib.decDigits u).all digitB = true := by
  intro u
  induction u using Nat.strongRecOn with
  | _ u ih =>
    rw [Lib.decDigits]
    by_cases h : u < 10
    · rw [dif_pos h, List.all_cons, List.all_nil, Bool.and_true]
      exact digitB_of (by rw [UInt8.toNat_ofNat']; omega)
    · rw [dif_neg h, List.all_append, ih _ (by omega), List.all_cons, List.all_nil, Bool.and_true, Bool.true_and]
      exact digitB_of (by rw [UInt8.toNat_ofNat']; omega)
theorem digit_facts {c : UInt8} (h : digitB c = true) : spaceB c = false ∧ isSign c = false ∧ c ≠ 120 ∧ c ≠ 88 ∧ 48 ≤ c.toNat ∧ c.toNat ≤ 57 := by
  unfold digitB withinI at h
  rw [Bool.and_eq_true, decide_eq_true_eq, decide_eq_true_eq] at h
  simp only [Int.ofNat_eq_natCast] at h
  have h1 : 48 ≤ c.toNat ∧ c.toNat ≤ 57 := by omega
  refine ⟨?_, ?_, ?_, ?_, h1⟩
  · unfold spaceB withinI
    simp only [Int.ofNat_eq_natCast, Bool.or_eq_false_iff, Bool.and_eq_false_iff, decide_eq_false_iff_not]
    omega
  · unfold isSign
    simp only [Bool.or_eq_false_iff, decide_eq_false_iff_not]
    constructor <;> (rintro rfl; revert h1; decide)
  · rintro rfl; revert h1; decide
  · rintro rfl; revert h1; decide
theorem isX_digits : ∀ (l : List UInt8), l.all digitB = true → isX l = false
  | [], _ => rfl
  | [_], _ => rfl
  | a :: b :: r, h => by
    rw [List.all_cons, List.all_cons, Bool.and_eq_true, Bool.and_eq_true] at h
    obtain ⟨_, _, h3, h4, _⟩ := digit_facts h.2.1
    show (decide (a = 48) && (decide (b = 120) || decide (b = 88))) = false
    rw [decide_eq_false h3, decide_eq_false h4]; simp

/-- trimming takes what is blank ahead and behind, and nothing else -/
theorem trim_mid (p q l : List UInt8) (hp : p.all spaceB = true) (hq : q.all spaceB = true) (a : UInt8) (ha : l.head? = some a) (hsa : spaceB a = false) (b : UInt8) (hb : l.getLast? = some b) (hsb : spaceB b = false) : trimR (trimL (p ++ (l ++ q))) = l := by
  have h1 : ∀ (p r : List UInt8), p.all spaceB = true → (p ++ r).dropWhile spaceB = r.dropWhile spaceB := by
    intro p r
    induction p with
    | nil => intro _; rfl
    | cons x p ih =>
      intro h
      rw [List.all_cons, Bool.and_eq_true] at h
      rw [List.cons_append, List.dropWhile_cons, if_pos h.1]
      exact ih h.2
  have h2 : ∀ (l : List UInt8) (a : UInt8), l.head? = some a → spaceB a = false → l.dropWhile spaceB = l := by
    intro l a h ha
    cases l with
    | nil => cases h
    | cons x l =>
      cases h
      rw [List.dropWhile_cons, if_neg (by rw [ha]; simp)]
  unfold trimR trimL
  rw [h1 _ _ hp]
  have e : (l ++ q).head? = some a := by
    cases l with
    | nil => cases ha
    | cons x l => exact ha
  rw [h2 _ a e hsa, List.reverse_append, h1 _ _ (by rw [List.all_reverse]; exact hq), h2 _ b (by rw [List.head?_reverse]; exact hb) hsb, List.reverse_reverse]

abbrev M64 : Nat := 2 ^ 64 - 1
theorem parseR_of (l : List UInt8) : parseR ⟨l.toArray⟩ = match Lib.parseIntB 64 l with
  | .ok v => (v, true)
  | .range => (Lib.intSat 64 l, false)
  | _ => (0, false) := rfl
/-- ParseInt of a sign and a number's digits -/
theorem parseInt_sign (sign : List UInt8) (hs : sign = [] ∨ sign = [45] ∨ sign = [43]) (rest : List UInt8) (ha : rest.all digitB = true) :
    Lib.parseIntB 64 (sign ++ rest) = match (if rest = [] then Lib.NumEnd.syntax else Lib.parseUintM M64 0 rest : Lib.NumEnd Nat) with
      | Lib.NumEnd.syntax => Lib.NumEnd.syntax
      | .range => .range
      | .ok u => if sign ≠ [45] ∧ 9223372036854775808 ≤ u then .range else if sign = [45] ∧ 9223372036854775808 < u then .range else .ok (if sign = [45] then -(u : Int) else u) := by
  rcases hs with rfl | rfl | rfl
  · cases rest with
    | nil => rfl
    | cons c r =>
      rw [List.all_cons, Bool.and_eq_true] at ha
      have hc := (digit_facts ha.1).2.2.2.2
      rw [List.nil_append]
      unfold Lib.parseIntB Lib.parseUintB
      have h43 : ¬ c.toNat = 43 := by omega
      have h45 : ¬ c.toNat = 45 := by omega
      simp only [h43, h45, or_self, if_false, not_false_eq_true, true_and, false_and, reduceCtorEq, ne_eq]
      rfl
  · unfold Lib.parseIntB Lib.parseUintB
    simp only [List.cons_append, List.nil_append, show (45 : UInt8).toNat = 45 from rfl, or_true, if_true, not_true_eq_false, false_and, if_false, true_and, ne_eq]
    rfl
  · unfold Lib.parseIntB Lib.parseUintB
    simp only [List.cons_append, List.nil_append, show (43 : UInt8).toNat = 43 from rfl, true_or, if_true, show ¬ ((43 : Nat) = 45) from by decide, not_false_eq_true, true_and, false_and, if_false, ne_eq, show ¬ ([43] : List UInt8) = [45] from by decide]
    rfl
/-- noughts and a number's digits, behind a sign -/
theorem numS_digits (neg : Bool) (z u : Nat) (hu : u ≤ 9223372036854775808) (hu2 : neg = false → u < 9223372036854775808) : numS (cond neg [45] []) (List.replicate z 48 ++ Lib.decDigits u) = (cond neg (-(u : Int)) u, true) := by
  have hall : (List.replicate z 48 ++ Lib.decDigits u).all digitB = true := by
    rw [List.all_append, digits_all, Bool.and_true, List.all_eq_true]
    intro x hx
    rw [(List.mem_replicate.1 hx).2]; decide
  have hne : List.replicate z 48 ++ Lib.decDigits u ≠ [] := by simp [digits_ne]
  have hread : Lib.parseUintB 64 (List.replicate z 48 ++ Lib.decDigits u) = .ok u := by
    unfold Lib.parseUintB
    rw [if_neg hne, read_noughts]
    have := read_digits (2 ^ 64 - 1) (by decide) u [] (by omega)
    rw [List.append_nil] at this
    rw [this, Lib.parseUintM]
  unfold numS
  rw [if_neg (by rw [isX_digits _ hall]; simp)]
  unfold decS
  rw [if_pos hall]
  have hp := parseInt_sign (cond neg [45] []) (by cases neg <;> simp) _ hall
  rw [if_neg hne] at hp
  have hread2 : Lib.parseUintM M64 0 (List.replicate z 48 ++ Lib.decDigits u) = .ok u := by
    unfold Lib.parseUintB at hread
    rw [if_neg hne] at hread
    exact hread
  rw [hread2] at hp
  simp only at hp
  cases neg with
  | true =>
    rw [if_neg (by simp [cond]), if_neg (by omega), if_pos (show (cond true [45] [] : List UInt8) = [45] from rfl)] at hp
    rw [parseR_of, hp]; rfl
  | false =>
    rw [if_neg (by have := hu2 rfl; omega), if_neg (by simp [cond]), if_neg (by simp [cond])] at hp
    rw [parseR_of, hp]; rfl
theorem signS_digits (neg : Bool) (z u : Nat) (hu : u ≤ 9223372036854775808) (hu2 : neg = false → u < 9223372036854775808) : signS (cond neg [45] [] ++ (List.replicate z 48 ++ Lib.decDigits u)) = (cond neg (-(u : Int)) u, true) := by
  have hnum := numS_digits neg z u hu hu2
  cases neg with
  | true => exact hnum
  | false =>
    simp only [cond, List.nil_append] at hnum ⊢
    have hall : (List.replicate z 48 ++ Lib.decDigits u).all digitB = true := by
      rw [List.all_append, digits_all, Bool.and_true, List.all_eq_true]
      intro x hx
      rw [(List.mem_replicate.1 hx).2]; decide
    have hne : List.replicate z 48 ++ Lib.decDigits u ≠ [] := by simp [digits_ne]
    generalize List.replicate z (48 : UInt8) ++ Lib.decDigits u = L at *
    cases L with
    | nil => exact absurd rfl hne
    | cons c r =>
      rw [List.all_cons, Bool.and_eq_true] at hall
      show (if isSign c = true then numS [c] r else numS [] (c :: r)) = _
      rw [if_neg (by rw [(digit_facts hall.1).2.1]; simp)]
      exact hnum
/-- a number's text, with blanks and noughts, is read as the number -/
theorem parse_text (n : Int) (h0 : -9223372036854775808 ≤ n) (h1 : n ≤ 9223372036854775807) (p q : List UInt8) (hp : p.all spaceB = true) (hq : q.all spaceB = true) (z : Nat) :
    parseS (p ++ ((cond (decide (n < 0)) [45] [] ++ (List.replicate z 48 ++ Lib.decDigits n.natAbs)) ++ q)) = (n, true) := by
  have hall : (List.replicate z 48 ++ Lib.decDigits n.natAbs).all digitB = true := by
    rw [List.all_append, digits_all, Bool.and_true, List.all_eq_true]
    intro x hx
    rw [(List.mem_replicate.1 hx).2]; decide
  have hne : List.replicate z 48 ++ Lib.decDigits n.natAbs ≠ [] := by simp [digits_ne]
  have hsig := signS_digits (decide (n < 0)) z n.natAbs (by omega) (by intro h; have := of_decide_eq_false h; omega)
  have hval : cond (decide (n < 0)) (-(n.natAbs : Int)) n.natAbs = n := by
    by_cases h : n < 0
    · rw [decide_eq_true h]; simp only [cond]; omega
    · rw [decide_eq_false h]; simp only [cond]; omega
  rw [hval] at hsig
  unfold parseS
  generalize List.replicate z (48 : UInt8) ++ Lib.decDigits n.natAbs = L at *
  have hlast : ∃ b, L.getLast? = some b ∧ digitB b = true := by
    have := List.getLast?_eq_some_getLast hne
    exact ⟨_, this, List.all_eq_true.1 hall _ (List.getLast_mem hne)⟩
  obtain ⟨b, hb, hdb⟩ := hlast
  have hlast2 : (cond (decide (n < 0)) [45] [] ++ L).getLast? = some b := by
    rw [List.getLast?_append, hb]; rfl
  have hfst : ∃ a, (cond (decide (n < 0)) [45] [] ++ L).head? = some a ∧ spaceB a = false := by
    cases decide (n < 0) with
    | true => exact ⟨45, rfl, by decide⟩
    | false =>
      cases L with
      | nil => exact absurd rfl hne
      | cons c r =>
        rw [List.all_cons, Bool.and_eq_true] at hall
        exact ⟨c, rfl, (digit_facts hall.1).1⟩
  obtain ⟨a, ha, hsa⟩ := hfst
  rw [trim_mid p q _ hp hq a ha hsa b hlast2 (digit_facts hdb).1]
  exact hsig
/-! ### a number's digits, as the document tells them -/
theorem hex_step (A : W64) (d : Nat) (hd : d < 16) : (A <<< 4) ||| BitVec.ofNat 64 d = A * 16#64 + BitVec.ofNat 64 d := by
  apply BitVec.eq_of_toNat_eq
  rw [BitVec.toNat_or, BitVec.toNat_shiftLeft, BitVec.toNat_add, BitVec.toNat_mul, BitVec.toNat_ofNat, BitVec.toNat_ofNat]
  rw [Nat.mod_eq_of_lt (show d < 2 ^ 64 by omega)]
  have e : (A.toNat <<< 4) % 2 ^ 64 = ((A.toNat % 2 ^ 60) <<< 4) := by
    rw [Nat.shiftLeft_eq, Nat.shiftLeft_eq]; omega
  rw [e, ← Nat.shiftLeft_add_eq_or_of_lt (by omega : d < 2 ^ 4), Nat.shiftLeft_eq]
  omega
end Go.Proofs.YtedfjfpnpncgkaaDoor
