/- Plain laws of characters: the decoder of the model is the search of the reference; texts put one behind the other. No program in sight. -/
import Derived.Laws.RangeAny
namespace Go.Proofs.YtpncjpgjmpemiaaDoor
set_option linter.unusedSimpArgs false
set_option linter.unusedVariables false

def encN (n : Nat) : List Nat :=
  if n < 128 then [n]
  else if n < 2048 then [192 + n / 64, 128 + n % 64]
  else if n < 65536 then [224 + n / 4096, 128 + n / 64 % 64, 128 + n % 64]
  else if n < 2097152 then [240 + n / 262144, 128 + n / 4096 % 64, 128 + n / 64 % 64, 128 + n % 64]
  else if n < 67108864 then [248 + n / 16777216, 128 + n / 262144 % 64, 128 + n / 4096 % 64, 128 + n / 64 % 64, 128 + n % 64]
  else [252 + n / 1073741824, 128 + n / 16777216 % 64, 128 + n / 262144 % 64, 128 + n / 4096 % 64, 128 + n / 64 % 64, 128 + n % 64]

def byteL (l : List Nat) : ByteArray := ⟨(l.map UInt8.ofNat).toArray⟩
def encS (n : Nat) : ByteArray := byteL (encN n)

/-- bytes from a place on, as numbers -/
def bAt (s : List UInt8) (i : Nat) : Nat := (s.getD i 0).toNat
theorem bAt_lt (s : List UInt8) (i : Nat) : bAt s i < 256 := (s.getD i 0).toNat_lt
theorem get_bAt (s : ByteArray) (i : Nat) : (s.get! i).toNat = bAt s.data.toList i := by
  unfold bAt
  simp only [ByteArray.get!, getElem!_def, List.getD]
  have e : s.data.toList[i]? = s.data[i]? := by simp
  rw [e]
  cases s.data[i]? <;> rfl

/-- may a number be a character's? -/
def okR (n : Nat) : Bool := decide (n ≤ 1114111) && (decide (n < 55296) || decide (57343 < n))

/-- the reference's number of k bytes at a place -/
def numAt (s : List UInt8) (p : Nat) : Nat → Nat
  | 1 => bAt s p
  | 2 => 64 * (bAt s p % 32) + bAt s (p + 1) % 64
  | 3 => 64 * (64 * (bAt s p % 16) + bAt s (p + 1) % 64) + bAt s (p + 2) % 64
  | 4 => 64 * (64 * (64 * (bAt s p % 8) + bAt s (p + 1) % 64) + bAt s (p + 2) % 64) + bAt s (p + 3) % 64
  | _ => 0

def seg (s : List UInt8) (p : Nat) (k : Nat) : List Nat := (List.range k).map fun i => bAt s (p + i)

/-- is it a character of k bytes? -/
def hitAt (s : List UInt8) (p k : Nat) : Bool := decide (p + k ≤ s.length) && decide (encN (numAt s p k) = seg s p k) && okR (numAt s p k)

/-- the reference's search -/
def oneAt (s : List UInt8) (p : Nat) : Nat × Nat :=
  if hitAt s p 1 then (numAt s p 1, 1) else if hitAt s p 2 then (numAt s p 2, 2)
  else if hitAt s p 3 then (numAt s p 3, 3) else if hitAt s p 4 then (numAt s p 4, 4) else (65533, 0)

theorem hit1 (s : List UInt8) (p : Nat) (h : p < s.length) : hitAt s p 1 = decide (bAt s p < 128) := by
  have h0 := bAt_lt s p
  simp only [hitAt, numAt, seg, okR, encN]
  rw [Bool.eq_iff_iff]
  simp only [Bool.and_eq_true, Bool.or_eq_true, decide_eq_true_eq, List.range_succ, List.range_zero, List.nil_append, List.map_cons, List.map_nil, Nat.add_zero]
  constructor
  · intro ⟨⟨_, h2⟩, _⟩
    split at h2
    · assumption
    · split at h2
      · simp at h2
      · omega
  · intro h1
    refine ⟨⟨by omega, ?_⟩, by omega⟩
    rw [if_pos h1]

theorem hit2 (s : List UInt8) (p : Nat) : hitAt s p 2 = decide (p + 2 ≤ s.length ∧ bAt s p / 32 = 6 ∧ bAt s (p+1) / 64 = 2 ∧ 128 ≤ numAt s p 2) := by
  have h0 := bAt_lt s p
  have h1 := bAt_lt s (p+1)
  simp only [hitAt, numAt, seg, okR, encN]
  rw [Bool.eq_iff_iff]
  simp only [Bool.and_eq_true, Bool.or_eq_true, decide_eq_true_eq, List.range_succ, List.range_zero, List.nil_append, List.map_cons, List.map_nil, Nat.add_zero, List.cons_append]
  generalize bAt s p = b0 at h0 ⊢
  generalize bAt s (p+1) = b1 at *
  constructor
  · intro ⟨⟨h3, h2⟩, _⟩
    split at h2
    · simp at h2
    · split at h2
      · simp at h2; omega
      · split at h2 <;> simp at h2
        omega
  · intro ⟨h1, h2, h3, h4⟩
    refine ⟨⟨by omega, ?_⟩, by omega⟩
    rw [if_neg (by omega), if_pos (by omega)]
    simp; omega

theorem hit3 (s : List UInt8) (p : Nat) : hitAt s p 3 = decide (p + 3 ≤ s.length ∧ bAt s p / 16 = 14 ∧ bAt s (p+1) / 64 = 2 ∧ bAt s (p+2) / 64 = 2 ∧ 2048 ≤ numAt s p 3 ∧ (numAt s p 3 < 55296 ∨ 57343 < numAt s p 3)) := by
  have h0 := bAt_lt s p
  have h1 := bAt_lt s (p+1)
  have h2 := bAt_lt s (p+2)
  simp only [hitAt, numAt, seg, okR, encN]
  rw [Bool.eq_iff_iff]
  simp only [Bool.and_eq_true, Bool.or_eq_true, decide_eq_true_eq, List.range_succ, List.range_zero, List.nil_append, List.map_cons, List.map_nil, Nat.add_zero, List.cons_append]
  generalize bAt s p = b0 at h0 ⊢
  generalize bAt s (p+1) = b1 at *
  generalize bAt s (p+2) = b2 at *
  constructor
  · intro ⟨⟨h3, h2⟩, h5⟩
    split at h2
    · simp at h2
    · split at h2
      · simp at h2
      · split at h2
        · simp at h2; omega
        · split at h2 <;> simp at h2
          omega
  · intro ⟨h1, h2, h3, h4, h5, h6⟩
    refine ⟨⟨by omega, ?_⟩, by omega⟩
    rw [if_neg (by omega), if_neg (by omega), if_pos (by omega)]
    simp; omega

theorem hit4 (s : List UInt8) (p : Nat) : hitAt s p 4 = decide (p + 4 ≤ s.length ∧ bAt s p / 8 = 30 ∧ bAt s (p+1) / 64 = 2 ∧ bAt s (p+2) / 64 = 2 ∧ bAt s (p+3) / 64 = 2 ∧ 65536 ≤ numAt s p 4 ∧ numAt s p 4 ≤ 1114111) := by
  have h0 := bAt_lt s p
  have h1 := bAt_lt s (p+1)
  have h2 := bAt_lt s (p+2)
  have h3 := bAt_lt s (p+3)
  simp only [hitAt, numAt, seg, okR, encN]
  rw [Bool.eq_iff_iff]
  simp only [Bool.and_eq_true, Bool.or_eq_true, decide_eq_true_eq, List.range_succ, List.range_zero, List.nil_append, List.map_cons, List.map_nil, Nat.add_zero, List.cons_append]
  generalize bAt s p = b0 at h0 ⊢
  generalize bAt s (p+1) = b1 at *
  generalize bAt s (p+2) = b2 at *
  generalize bAt s (p+3) = b3 at *
  constructor
  · intro ⟨⟨h3, h2⟩, h5⟩
    split at h2
    · simp at h2
    · split at h2
      · simp at h2
      · split at h2
        · simp at h2
        · split at h2
          · simp at h2; omega
          · omega
  · intro ⟨h1, h2, h3, h4, h5, h6, h7⟩
    refine ⟨⟨by omega, ?_⟩, by omega⟩
    rw [if_neg (by omega), if_neg (by omega), if_neg (by omega), if_pos (by omega)]
    simp; omega

theorem valid_nat (n : Nat) : Utf8.valid (n : Int) = okR n := by
  rw [Bool.eq_iff_iff]
  simp only [Utf8.valid, okR, Bool.and_eq_true, Bool.or_eq_true, decide_eq_true_eq]
  omega

theorem decode_eq (s : ByteArray) (p : Nat) : Utf8.decode s p = (if bAt s.data.toList p < 128 then (bAt s.data.toList p, 1)
      else if (bAt s.data.toList p / 32 == 6 && (decide (p + 1 < s.size) && bAt s.data.toList (p+1) / 64 == 2)) = true then
        (if (bAt s.data.toList p % 32) * 64 + bAt s.data.toList (p+1) % 64 ≥ 128 then ((bAt s.data.toList p % 32) * 64 + bAt s.data.toList (p+1) % 64, 2) else (65533, 1))
      else if (bAt s.data.toList p / 16 == 14 && (decide (p + 1 < s.size) && bAt s.data.toList (p+1) / 64 == 2) && (decide (p + 2 < s.size) && bAt s.data.toList (p+2) / 64 == 2)) = true then
        (if ((decide ((bAt s.data.toList p % 16) * 4096 + (bAt s.data.toList (p+1) % 64) * 64 + bAt s.data.toList (p+2) % 64 ≥ 2048)) && Utf8.valid ((bAt s.data.toList p % 16) * 4096 + (bAt s.data.toList (p+1) % 64) * 64 + bAt s.data.toList (p+2) % 64 : Nat)) = true then ((bAt s.data.toList p % 16) * 4096 + (bAt s.data.toList (p+1) % 64) * 64 + bAt s.data.toList (p+2) % 64, 3) else (65533, 1))
      else if (bAt s.data.toList p / 8 == 30 && (decide (p + 1 < s.size) && bAt s.data.toList (p+1) / 64 == 2) && (decide (p + 2 < s.size) && bAt s.data.toList (p+2) / 64 == 2) && (decide (p + 3 < s.size) && bAt s.data.toList (p+3) / 64 == 2)) = true then
        (if (decide ((bAt s.data.toList p % 8) * 262144 + (bAt s.data.toList (p+1) % 64) * 4096 + (bAt s.data.toList (p+2) % 64) * 64 + bAt s.data.toList (p+3) % 64 ≥ 65536) && Utf8.valid ((bAt s.data.toList p % 8) * 262144 + (bAt s.data.toList (p+1) % 64) * 4096 + (bAt s.data.toList (p+2) % 64) * 64 + bAt s.data.toList (p+3) % 64 : Nat)) = true then ((bAt s.data.toList p % 8) * 262144 + (bAt s.data.toList (p+1) % 64) * 4096 + (bAt s.data.toList (p+2) % 64) * 64 + bAt s.data.toList (p+3) % 64, 4) else (65533, 1))
      else (65533, 1)) := by
  simp only [Utf8.decode, get_bAt, Nat.add_zero, Utf8.runeError]

theorem pick (b0 b1 b2 b3 p z n2 n3 n4 : Nat) (_h : p < z) (_h0 : b0 < 256) :
    ∀ r1 r2 : Nat × Nat, r1 = (if b0 < 128 then (b0, 1) else if p + 2 ≤ z ∧ b0 / 32 = 6 ∧ b1 / 64 = 2 ∧ 128 ≤ n2 then (n2, 2)
      else if p + 3 ≤ z ∧ b0 / 16 = 14 ∧ b1 / 64 = 2 ∧ b2 / 64 = 2 ∧ 2048 ≤ n3 ∧ (n3 < 55296 ∨ 57343 < n3) then (n3, 3)
      else if p + 4 ≤ z ∧ b0 / 8 = 30 ∧ b1 / 64 = 2 ∧ b2 / 64 = 2 ∧ b3 / 64 = 2 ∧ 65536 ≤ n4 ∧ n4 ≤ 1114111 then (n4, 4) else (65533, 0)) →
    r2 = (if b0 < 128 then (b0, 1) else if b0 / 32 = 6 ∧ p + 1 < z ∧ b1 / 64 = 2 then (if n2 ≥ 128 then (n2, 2) else (65533, 1))
      else if (b0 / 16 = 14 ∧ p + 1 < z ∧ b1 / 64 = 2) ∧ p + 2 < z ∧ b2 / 64 = 2 then (if n3 ≥ 2048 ∧ n3 ≤ 1114111 ∧ (n3 < 55296 ∨ 57343 < n3) then (n3, 3) else (65533, 1))
      else if ((b0 / 8 = 30 ∧ p + 1 < z ∧ b1 / 64 = 2) ∧ p + 2 < z ∧ b2 / 64 = 2) ∧ p + 3 < z ∧ b3 / 64 = 2 then (if n4 ≥ 65536 ∧ n4 ≤ 1114111 ∧ (n4 < 55296 ∨ 57343 < n4) then (n4, 4) else (65533, 1))
      else (65533, 1)) → n3 ≤ 65535 →
    (r1.2 = 0 ∧ r2 = (65533, 1)) ∨ (0 < r1.2 ∧ r1.2 ≤ 4 ∧ r2 = r1) := by
  intro r1 r2 e1 e2 hn3
  by_cases c1 : b0 < 128
  · rw [if_pos c1] at e1 e2; subst e1 e2; right; exact ⟨Nat.zero_lt_one, by simp, rfl⟩
  rw [if_neg c1] at e1 e2
  by_cases c2 : b0 / 32 = 6 ∧ p + 1 < z ∧ b1 / 64 = 2
  · rw [if_pos c2] at e2
    by_cases d2 : n2 ≥ 128
    · rw [if_pos ⟨by omega, c2.1, c2.2.2, d2⟩] at e1
      rw [if_pos d2] at e2
      subst e1 e2; right; exact ⟨by simp, by simp, rfl⟩
    · rw [if_neg (fun h => d2 h.2.2.2), if_neg (fun h => by omega), if_neg (fun h => by omega)] at e1
      rw [if_neg d2] at e2
      subst e1 e2; left; exact ⟨rfl, rfl⟩
  rw [if_neg c2] at e2
  rw [if_neg (fun h => c2 ⟨h.2.1, by omega, h.2.2.1⟩)] at e1
  by_cases c3 : (b0 / 16 = 14 ∧ p + 1 < z ∧ b1 / 64 = 2) ∧ p + 2 < z ∧ b2 / 64 = 2
  · rw [if_pos c3] at e2
    by_cases d3 : n3 ≥ 2048 ∧ n3 ≤ 1114111 ∧ (n3 < 55296 ∨ 57343 < n3)
    · rw [if_pos d3] at e2
      rw [if_pos ⟨by omega, c3.1.1, c3.1.2.2, c3.2.2, d3.1, d3.2.2⟩] at e1
      subst e1 e2; right; exact ⟨by simp, by simp, rfl⟩
    · rw [if_neg d3] at e2
      rw [if_neg (fun h => d3 ⟨h.2.2.2.2.1, by omega, h.2.2.2.2.2⟩), if_neg (fun h => by omega)] at e1
      subst e1 e2; left; exact ⟨rfl, rfl⟩
  rw [if_neg c3] at e2
  rw [if_neg (fun h => c3 ⟨⟨h.2.1, by omega, h.2.2.1⟩, by omega, h.2.2.2.1⟩)] at e1
  by_cases c4 : ((b0 / 8 = 30 ∧ p + 1 < z ∧ b1 / 64 = 2) ∧ p + 2 < z ∧ b2 / 64 = 2) ∧ p + 3 < z ∧ b3 / 64 = 2
  · rw [if_pos c4] at e2
    by_cases d4 : n4 ≥ 65536 ∧ n4 ≤ 1114111 ∧ (n4 < 55296 ∨ 57343 < n4)
    · rw [if_pos d4] at e2
      rw [if_pos ⟨by omega, c4.1.1.1, c4.1.1.2.2, c4.1.2.2, c4.2.2, d4.1, d4.2.1⟩] at e1
      subst e1 e2; right; exact ⟨by simp, by simp, rfl⟩
    · rw [if_neg d4] at e2
      rw [if_neg (fun h => d4 ⟨h.2.2.2.2.2.1, h.2.2.2.2.2.2, Or.inr (by omega)⟩)] at e1
      subst e1 e2; left; exact ⟨rfl, rfl⟩
  rw [if_neg c4] at e2
  rw [if_neg (fun h => c4 ⟨⟨⟨h.2.1, by omega, h.2.2.1⟩, by omega, h.2.2.2.1⟩, by omega, h.2.2.2.2.1⟩)] at e1
  subst e1 e2; left; exact ⟨rfl, rfl⟩

/-- the model's decoder is the reference's search -/
theorem decode_one (s : ByteArray) (p : Nat) (h : p < s.size) :
    ((oneAt s.data.toList p).2 = 0 ∧ Utf8.decode s p = (65533, 1)) ∨ (0 < (oneAt s.data.toList p).2 ∧ (oneAt s.data.toList p).2 ≤ 4 ∧ Utf8.decode s p = oneAt s.data.toList p) := by
  have q2 : ∀ b0 b1, 64 * (b0 % 32) + b1 % 64 = b0 % 32 * 64 + b1 % 64 := by omega
  have q3 : ∀ b0 b1 b2, 64 * (64 * (b0 % 16) + b1 % 64) + b2 % 64 = b0 % 16 * 4096 + b1 % 64 * 64 + b2 % 64 := by omega
  have q4 : ∀ b0 b1 b2 b3, 64 * (64 * (64 * (b0 % 8) + b1 % 64) + b2 % 64) + b3 % 64 = b0 % 8 * 262144 + b1 % 64 * 4096 + b2 % 64 * 64 + b3 % 64 := by omega
  have h' : p < s.data.toList.length := by simpa using h
  have hl : s.data.toList.length = s.size := by simp
  refine pick (bAt s.data.toList p) (bAt s.data.toList (p+1)) (bAt s.data.toList (p+2)) (bAt s.data.toList (p+3)) p s.size (bAt s.data.toList p % 32 * 64 + bAt s.data.toList (p+1) % 64) (bAt s.data.toList p % 16 * 4096 + bAt s.data.toList (p+1) % 64 * 64 + bAt s.data.toList (p+2) % 64) (bAt s.data.toList p % 8 * 262144 + bAt s.data.toList (p+1) % 64 * 4096 + bAt s.data.toList (p+2) % 64 * 64 + bAt s.data.toList (p+3) % 64) h (bAt_lt s.data.toList p) _ _ ?_ ?_ (by omega)
  · simp only [oneAt, hit1 s.data.toList p h', hit2, hit3, hit4, hl, numAt, q2, q3, q4, decide_eq_true_eq]
  · rw [decode_eq]
    simp only [valid_nat, okR, Bool.and_eq_true, Bool.or_eq_true, decide_eq_true_eq, beq_iff_eq]

/-! ### going through a text -/
def eachF (s : List UInt8) : Nat → Nat → List (Nat × Nat)
  | 0, _ => []
  | f + 1, p => if p < s.length then ((oneAt s p).1, p) :: eachF s f (p + max 1 (oneAt s p).2) else []
def eachL (s : List UInt8) : List (Nat × Nat) := eachF s s.length 0

def validF (s : List UInt8) : Nat → Nat → Bool
  | 0, _ => true
  | f + 1, p => if p < s.length then (decide ((oneAt s p).2 ≠ 0) && validF s f (p + (oneAt s p).2)) else true
def validL (s : List UInt8) : Bool := validF s s.length 0

theorem decode_fst (s : ByteArray) (p : Nat) (h : p < s.size) : (Utf8.decode s p).1 = (oneAt s.data.toList p).1 ∧ (Utf8.decode s p).2 = max 1 (oneAt s.data.toList p).2 := by
  rcases decode_one s p h with ⟨h1, h2⟩ | ⟨h1, h2, h3⟩
  · have : (oneAt s.data.toList p).1 = 65533 := by
      revert h1; unfold oneAt; repeat' split
      all_goals simp
    rw [h2, this, h1]; exact ⟨rfl, rfl⟩
  · rw [h3]; exact ⟨rfl, by omega⟩

theorem one_err (s : List UInt8) (p : Nat) (h : (oneAt s p).2 = 0) : oneAt s p = (65533, 0) := by
  revert h; unfold oneAt; repeat' split
  all_goals simp

/-- what a hit says -/
theorem one_hit (s : List UInt8) (p : Nat) (h : (oneAt s p).2 ≠ 0) : ∃ k, 1 ≤ k ∧ k ≤ 4 ∧ hitAt s p k = true ∧ oneAt s p = (numAt s p k, k) := by
  revert h; unfold oneAt; repeat' split
  · intro _; exact ⟨1, by omega, by omega, by assumption, rfl⟩
  · intro _; exact ⟨2, by omega, by omega, by assumption, rfl⟩
  · intro _; exact ⟨3, by omega, by omega, by assumption, rfl⟩
  · intro _; exact ⟨4, by omega, by omega, by assumption, rfl⟩
  · simp

theorem one_miss (s : List UInt8) (p : Nat) (h : (oneAt s p).2 = 0) (k : Nat) (h1 : 1 ≤ k) (h4 : k ≤ 4) : hitAt s p k = false := by
  revert h; unfold oneAt
  intro h
  split at h
  · simp at h
  · split at h
    · simp at h
    · split at h
      · simp at h
      · split at h
        · simp at h
        · have : k = 1 ∨ k = 2 ∨ k = 3 ∨ k = 4 := by omega
          rcases this with rfl | rfl | rfl | rfl <;> simp_all

theorem hit_parts {s : List UInt8} {p k : Nat} (h : hitAt s p k = true) : p + k ≤ s.length ∧ encN (numAt s p k) = seg s p k ∧ okR (numAt s p k) = true := by
  simpa [hitAt, and_assoc] using h

theorem encN_len (n : Nat) : 1 ≤ (encN n).length ∧ (encN n).length ≤ 6 := by
  unfold encN; repeat' split
  all_goals simp

theorem seg_len (s : List UInt8) (p k : Nat) : (seg s p k).length = k := by simp [seg]

/-- the first byte tells how many there are -/
def lenOf (b : Nat) : Nat := if b < 192 then 1 else if b < 224 then 2 else if b < 240 then 3 else if b < 248 then 4 else if b < 252 then 5 else 6
theorem encN_head (n : Nat) (hn : n < 2147483648) : ∃ b t, encN n = b :: t ∧ lenOf b = (encN n).length ∧ (b < 128 ∨ 192 ≤ b) ∧ b < 256 := by
  unfold encN lenOf; repeat' split
  all_goals refine ⟨_, _, rfl, ?_, ?_, ?_⟩
  all_goals try simp only [List.length_cons, List.length_nil]
  all_goals first | omega | (repeat' split) 
  all_goals omega
theorem encN_inj (m n : Nat) (hm : m < 2147483648) (hn : n < 2147483648) (h : encN m = encN n) : m = n := by
  unfold encN at h
  repeat' split at h
  all_goals first | (simp only [List.cons.injEq, and_true] at h; omega) | (simp at h; done) | omega
theorem encN_byte (n : Nat) (hn : n < 2147483648) : ∀ b ∈ encN n, b < 256 := by
  unfold encN; repeat' split
  all_goals (intro b hb; simp at hb; omega)

theorem num_lt (s : List UInt8) (p k : Nat) : numAt s p k < 2147483648 := by
  have h0 := bAt_lt s p
  unfold numAt; split <;> omega

/-- a hit's bytes are led by their first one -/
theorem hit_len {s : List UInt8} {p k : Nat} (h : hitAt s p k = true) (hk : 1 ≤ k) : lenOf (bAt s p) = k ∧ (bAt s p < 128 ∨ 192 ≤ bAt s p) := by
  obtain ⟨_, h2, _⟩ := hit_parts h
  obtain ⟨b, t, h3, h4, h5, _⟩ := encN_head (numAt s p k) (num_lt s p k)
  rw [h2, seg_len] at h4
  rw [h2] at h3
  obtain ⟨j, rfl⟩ : ∃ j, k = j + 1 := ⟨k - 1, by omega⟩
  simp [seg, List.range_succ_eq_map] at h3
  rw [← h3.1] at h4 h5
  exact ⟨h4, h5⟩

/-- the other way round: the search hits, if a number's bytes lie there -/
theorem num_of (s : List UInt8) (p n : Nat) (hn : okR n = true) (h : encN n = seg s p (encN n).length) : numAt s p (encN n).length = n := by
  have hok : n ≤ 1114111 := by simp [okR] at hn; omega
  revert h
  unfold encN
  split
  · simp [seg, numAt, List.range_succ]; intro a; exact a.symm
  · split
    · simp [seg, numAt, List.range_succ]; intro a b; rw [← a, ← b]; omega
    · split
      · simp [seg, numAt, List.range_succ]; intro a b c; rw [← a, ← b, ← c]; omega
      · split
        · simp [seg, numAt, List.range_succ]; intro a b c d; rw [← a, ← b, ← c, ← d]; omega
        · omega

theorem one_of (s : List UInt8) (p n : Nat) (hn : okR n = true) (h : encN n = seg s p (encN n).length) (hp : p + (encN n).length ≤ s.length) : oneAt s p = (n, (encN n).length) := by
  have hok : n ≤ 1114111 := by simp [okR] at hn; omega
  have hnum := num_of s p n hn h
  have hl := encN_len n
  have hl4 : (encN n).length ≤ 4 := by
    unfold encN; repeat' split
    all_goals first | (simp; done) | omega
  have hhit : hitAt s p (encN n).length = true := by
    simp only [hitAt, hnum, hn, Bool.and_true, Bool.and_eq_true, decide_eq_true_eq]
    exact ⟨hp, h⟩
  by_cases hz : (oneAt s p).2 = 0
  · have := one_miss s p hz (encN n).length hl.1 hl4
    simp [this] at hhit
  · obtain ⟨k, k1, k4, kh, ke⟩ := one_hit s p hz
    have a := (hit_len kh k1).1
    have b := (hit_len hhit hl.1).1
    have : k = (encN n).length := by omega
    subst this
    rw [ke, hnum]

theorem hit_append (s t : List UInt8) (p k : Nat) (h : p + k ≤ s.length) (hk : k ≤ 4) : hitAt (s ++ t) p k = hitAt s p k := by
  have hb : ∀ i, i < k → bAt (s ++ t) (p + i) = bAt s (p + i) := by
    intro i hi
    unfold bAt
    simp [List.getD, List.getElem?_append_left (show p + i < s.length by omega)]
  have hs : seg (s ++ t) p k = seg s p k := by
    unfold seg
    apply List.map_congr_left
    intro i hi; exact hb i (by simpa using hi)
  have hn : numAt (s ++ t) p k = numAt s p k := by
    have : k = 0 ∨ k = 1 ∨ k = 2 ∨ k = 3 ∨ k = 4 := by omega
    rcases this with rfl | rfl | rfl | rfl | rfl
    · rfl
    · have := hb 0 (by omega); simpa [numAt] using this
    · have h0 := hb 0 (by omega); have h1 := hb 1 (by omega); simp only [Nat.add_zero] at h0; simp only [numAt, h0, h1]
    · have h0 := hb 0 (by omega); have h1 := hb 1 (by omega); have h2 := hb 2 (by omega); simp only [Nat.add_zero] at h0; simp only [numAt, h0, h1, h2]
    · have h0 := hb 0 (by omega); have h1 := hb 1 (by omega); have h2 := hb 2 (by omega); have h3 := hb 3 (by omega); simp only [Nat.add_zero] at h0; simp only [numAt, h0, h1, h2, h3]
  simp only [hitAt, hs, hn]
  have : decide (p + k ≤ (s ++ t).length) = decide (p + k ≤ s.length) := by simp; omega
  rw [this]

theorem one_append (s t : List UInt8) (p : Nat) (h : (oneAt s p).2 ≠ 0) : oneAt (s ++ t) p = oneAt s p := by
  obtain ⟨k, k1, k4, kh, ke⟩ := one_hit s p h
  have hp := hit_parts kh
  have hh : hitAt (s ++ t) p k = true := by rw [hit_append s t p k hp.1 k4]; exact kh
  have hz : (oneAt (s ++ t) p).2 ≠ 0 := fun hz => by have := one_miss _ p hz k k1 k4; simp [this] at hh
  obtain ⟨j, j1, j4, jh, je⟩ := one_hit _ p hz
  have a := (hit_len jh j1).1
  have b := (hit_len hh k1).1
  have : j = k := by omega
  subst this
  have e2 := (hit_parts hh).2.1
  have e1 := hp.2.1
  have es : seg (s ++ t) p j = seg s p j := by
    unfold seg
    apply List.map_congr_left
    intro i hi
    unfold bAt
    simp [List.getD, List.getElem?_append_left (show p + i < s.length by simp at hi; omega)]
  rw [ke, je, encN_inj _ _ (num_lt _ _ _) (num_lt _ _ _) (by rw [e1, e2, es])]

/-- no hit goes over into a text that begins as a character does -/
theorem one_append_none (s t : List UInt8) (p : Nat) (hp : p < s.length) (h : (oneAt s p).2 = 0) (ht : bAt t 0 < 128 ∨ 192 ≤ bAt t 0) : (oneAt (s ++ t) p).2 = 0 := by
  false_or_by_contra
  rename_i hz
  obtain ⟨k, k1, k4, kh, ke⟩ := one_hit _ p hz
  by_cases hk : p + k ≤ s.length
  · rw [hit_append s t p k hk k4] at kh
    have := one_miss s p h k k1 k4
    simp [this] at kh
  · obtain ⟨h1, h2, _⟩ := hit_parts kh
    have hcont : ∀ i, 1 ≤ i → i < k → 128 ≤ bAt (s ++ t) (p + i) ∧ bAt (s ++ t) (p + i) < 192 := by
      intro i hi1 hi
      have hg : (encN (numAt (s ++ t) p k))[i]? = some (bAt (s ++ t) (p + i)) := by
        rw [h2]; simp [seg, hi]
      revert hg
      generalize bAt (s ++ t) (p + i) = b
      unfold encN
      repeat' split
      all_goals
        obtain rfl | rfl | rfl : i = 1 ∨ i = 2 ∨ i = 3 := by omega
        all_goals (simp; try omega)
    have := hcont (s.length - p) (by omega) (by omega)
    have e : bAt (s ++ t) (p + (s.length - p)) = bAt t 0 := by
      unfold bAt
      have : p + (s.length - p) = s.length := by omega
      rw [this]
      simp [List.getD, List.getElem?_append_right]
    omega

theorem eachF_fuel (s : List UInt8) : ∀ f g p, s.length ≤ p + f → s.length ≤ p + g → eachF s f p = eachF s g p
  | 0, 0, _, _, _ => rfl
  | 0, g + 1, p, h, _ => by simp only [eachF]; rw [if_neg (by omega)]
  | f + 1, 0, p, _, h => by simp only [eachF]; rw [if_neg (by omega)]
  | f + 1, g + 1, p, h1, h2 => by
    simp only [eachF]
    split
    · rw [eachF_fuel s f g _ (by omega) (by omega)]
    · rfl

theorem validF_fuel (s : List UInt8) : ∀ f g p, s.length ≤ p + f → s.length ≤ p + g → validF s f p = validF s g p
  | 0, 0, _, _, _ => rfl
  | 0, g + 1, p, h, _ => by simp only [validF]; rw [if_neg (by omega)]
  | f + 1, 0, p, _, h => by simp only [validF]; rw [if_neg (by omega)]
  | f + 1, g + 1, p, h1, h2 => by
    simp only [validF]
    split
    · by_cases hz : (oneAt s p).2 = 0
      · simp [hz]
      · rw [validF_fuel s f g _ (by omega) (by omega)]
    · rfl

theorem one_end (s : List UInt8) (p : Nat) (h : (oneAt s p).2 ≠ 0) : p + (oneAt s p).2 ≤ s.length := by
  obtain ⟨k, _, _, kh, ke⟩ := one_hit s p h
  rw [ke]; exact (hit_parts kh).1

theorem each_append (s t : List UInt8) : ∀ f g p, validF s f p = true → p ≤ s.length → s.length ≤ p + f → s.length + t.length ≤ p + g →
    eachF (s ++ t) g p = eachF s f p ++ eachF (s ++ t) t.length s.length
  | 0, g, p, _, hp, hf, hg => by
    have : p = s.length := by omega
    subst this
    rw [eachF_fuel (s ++ t) g t.length s.length (by simp; omega) (by simp)]
    simp [eachF]
  | f + 1, g, p, hv, hp, hf, hg => by
    by_cases hlt : p < s.length
    · obtain ⟨g, rfl⟩ : ∃ j, g = j + 1 := ⟨g - 1, by omega⟩
      simp only [validF, if_pos hlt, Bool.and_eq_true, decide_eq_true_eq] at hv
      have e := one_append s t p hv.1
      have hend := one_end s p hv.1
      simp only [eachF]
      rw [if_pos (by simp; omega), if_pos hlt, e, List.cons_append]
      have hm : max 1 (oneAt s p).2 = (oneAt s p).2 := by omega
      rw [hm, each_append s t f g _ hv.2 hend (by omega) (by omega)]
    · have : p = s.length := by omega
      subst this
      rw [eachF_fuel (s ++ t) g t.length s.length (by simp; omega) (by simp)]
      simp only [eachF]
      rw [if_neg (by omega)]
      rfl

theorem valid_append_none (s t : List UInt8) (ht : bAt t 0 < 128 ∨ 192 ≤ bAt t 0) : ∀ f g p, validF s f p = false → p ≤ s.length → s.length + t.length ≤ p + g → validF (s ++ t) g p = false
  | 0, _, _, hv, _, _ => by simp [validF] at hv
  | f + 1, g, p, hv, hp, hg => by
    by_cases hlt : p < s.length
    · obtain ⟨g, rfl⟩ : ∃ j, g = j + 1 := ⟨g - 1, by omega⟩
      simp only [validF, if_pos hlt, Bool.and_eq_false_iff, decide_eq_false_iff_not, ne_eq, Classical.not_not] at hv
      simp only [validF]
      rw [if_pos (by simp; omega)]
      by_cases hz : (oneAt s p).2 = 0
      · rw [one_append_none s t p hlt hz ht]; rfl
      · rw [one_append s t p hz]
        have hend := one_end s p hz
        rw [valid_append_none s t ht f g _ (hv.resolve_left hz) hend (by omega)]
        simp
    · simp [validF, if_neg hlt] at hv

/-! ### a number's bytes -/
def encU (n : Nat) : List UInt8 := (encN n).map UInt8.ofNat
theorem encU_len (n : Nat) : (encU n).length = (encN n).length := by simp [encU]
theorem bAt_enc (n : Nat) (hn : n < 2147483648) (t : List UInt8) (i : Nat) (hi : i < (encN n).length) : bAt (encU n ++ t) i = (encN n)[i] := by
  have hb := encN_byte n hn _ (List.getElem_mem hi)
  unfold bAt
  rw [List.getD, List.getElem?_append_left (by rw [encU_len]; exact hi)]
  simp [encU, hi]
  omega
theorem seg_enc (n : Nat) (hn : n < 2147483648) (t : List UInt8) : seg (encU n ++ t) 0 (encN n).length = encN n := by
  apply List.ext_getElem
  · simp [seg_len]
  · intro i h1 h2
    simp only [seg, List.getElem_map, List.getElem_range, Nat.zero_add]
    exact bAt_enc n hn t i h2

theorem seg_mid (a : List UInt8) (n : Nat) (hn : n < 2147483648) (t : List UInt8) : seg (a ++ (encU n ++ t)) a.length (encN n).length = encN n := by
  have := seg_enc n hn t
  unfold seg at this ⊢
  rw [← this]
  simp only [List.length_map, List.length_range]
  rw [this]
  conv => rhs; rw [← this]
  apply List.map_congr_left
  intro i hi
  unfold bAt
  simp [List.getD, List.getElem?_append_right]

theorem okR_lt {n : Nat} (h : okR n = true) : n ≤ 1114111 := by simp [okR] at h; omega

theorem one_mid (a t : List UInt8) (n : Nat) (hn : okR n = true) : oneAt (a ++ (encU n ++ t)) a.length = (n, (encN n).length) := by
  have := okR_lt hn
  exact one_of _ _ _ hn (seg_mid a n (by omega) t).symm (by simp [encU_len])

theorem eachF_end (s : List UInt8) (f p : Nat) (h : s.length ≤ p) : eachF s f p = [] := by
  cases f
  · rfl
  · simp only [eachF]; rw [if_neg (by omega)]
theorem validF_end (s : List UInt8) (f p : Nat) (h : s.length ≤ p) : validF s f p = true := by
  cases f
  · rfl
  · simp only [validF]; rw [if_neg (by omega)]
theorem each_enc (n : Nat) (hn : okR n = true) : eachL (encU n) = [(n, 0)] ∧ validL (encU n) = true := by
  have h := one_mid [] [] n hn
  simp only [List.nil_append, List.append_nil, List.length_nil] at h
  have hl := encN_len n
  have hl' := encU_len n
  obtain ⟨m, hm⟩ : ∃ m, (encU n).length = m + 1 := ⟨(encU n).length - 1, by omega⟩
  unfold eachL validL
  rw [hm]
  simp only [eachF, validF]
  rw [if_pos (by omega), if_pos (by omega), h]
  have e : 0 + max 1 (encN n).length = (encU n).length := by omega
  have e' : 0 + (encN n).length = (encU n).length := by omega
  simp only
  rw [e, e']
  rw [eachF_end _ _ _ (Nat.le_refl _), validF_end _ _ _ (Nat.le_refl _)]
  refine ⟨rfl, ?_⟩
  rw [Bool.and_true]
  exact decide_eq_true (by omega)

theorem valid_bad (n : Nat) (hn : n < 2147483648) (hok : okR n = false) : validL (encU n) = false := by
  have hl := encN_len n
  have hl' := encU_len n
  obtain ⟨m, hm⟩ : ∃ m, (encU n).length = m + 1 := ⟨(encU n).length - 1, by omega⟩
  unfold validL
  rw [hm]
  simp only [validF]
  rw [if_pos (by omega)]
  by_cases hz : (oneAt (encU n) 0).2 = 0
  · simp [hz]
  · exfalso
    obtain ⟨k, k1, k4, kh, _⟩ := one_hit _ _ hz
    obtain ⟨h1, h2, h3⟩ := hit_parts kh
    have hlen := (hit_len kh k1).1
    have hs := seg_enc n hn []
    rw [List.append_nil] at hs
    obtain ⟨b, t, e1, e2, _, _⟩ := encN_head n hn
    have e3 := bAt_enc n hn [] 0 (by omega)
    rw [List.append_nil] at e3
    have e4 : (encN n)[0]'(by omega) = b := by simp [e1]
    rw [e3, e4] at hlen
    have : k = (encN n).length := by omega
    subst this
    rw [hs] at h2
    have := encN_inj _ _ (num_lt _ _ _) hn h2
    rw [this] at h3
    rw [h3] at hok; cases hok

theorem each_mid (a t : List UInt8) (n : Nat) (hn : okR n = true) (ha : validL a = true) : ∃ r, eachL (a ++ (encU n ++ t)) = eachL a ++ (n, a.length) :: r := by
  have h := each_append a (encU n ++ t) a.length (a ++ (encU n ++ t)).length 0 ha (by omega) (by omega) (by simp)
  unfold eachL
  rw [h]
  have hl := encN_len n
  have hl' := encU_len n
  obtain ⟨m, hm⟩ : ∃ m, (encU n ++ t).length = m + 1 := ⟨(encU n ++ t).length - 1, by simp; omega⟩
  rw [hm]
  simp only [eachF]
  rw [if_pos (by simp; omega), one_mid a t n hn]
  exact ⟨_, rfl⟩

theorem valid_mid_none (a : List UInt8) (n : Nat) (hn : n < 2147483648) (ha : validL a = false) : validL (a ++ encU n) = false := by
  refine valid_append_none a (encU n) ?_ a.length _ 0 ha (by omega) (by simp)
  have hl := encN_len n
  have e3 := bAt_enc n hn [] 0 (by omega)
  rw [List.append_nil] at e3
  obtain ⟨b, t, e1, _, e2, _⟩ := encN_head n hn
  have e4 : (encN n)[0]'(by omega) = b := by simp [e1]
  rw [e3, e4]; exact e2

/-- the program's own test of a place: where the decoder says 65533 -/
theorem one_ne_iff (s : List UInt8) (p : Nat) (h1 : (oneAt s p).1 = 65533) :
    ((oneAt s p).2 = 0) ↔ (s.length < p + 3 ∨ (s.drop p).take 3 ≠ [239, 191, 189]) := by
  constructor
  · intro hz
    by_cases hl : s.length < p + 3
    · exact .inl hl
    · right; intro he
      have hs : seg s p 3 = [239, 191, 189] := by
        have hg : ∀ i, i < 3 → s[p + i]? = ([239, 191, 189] : List UInt8)[i]? := by
          intro i hi
          rw [← he, List.getElem?_take_of_lt hi, List.getElem?_drop]
        simp [seg, List.range_succ, bAt, List.getD, hg 1 (by omega), hg 2 (by omega)]
        have := hg 0 (by omega)
        simp at this
        simp [this]
      have : oneAt s p = (65533, (encN 65533).length) := one_of s p 65533 (by decide) (by rw [show (encN 65533).length = 3 from by decide, hs]; decide) (by rw [show (encN 65533).length = 3 from by decide]; omega)
      rw [this] at hz
      revert hz; decide
  · intro h
    false_or_by_contra
    rename_i hz
    obtain ⟨k, k1, k4, kh, ke⟩ := one_hit s p hz
    obtain ⟨a1, a2, _⟩ := hit_parts kh
    rw [ke] at h1
    rw [show numAt s p k = 65533 from h1] at a2
    have e : encN 65533 = [239, 191, 189] := by decide
    rw [e] at a2
    have hk : k = 3 := by have := congrArg List.length a2; simp [seg_len] at this; omega
    subst hk
    rcases h with h | h
    · omega
    · apply h
      simp [seg, List.range_succ, bAt, List.getD] at a2
      have l0 : p < s.length := by omega
      have l1 : p + 1 < s.length := by omega
      have l2 : p + 2 < s.length := by omega
      simp [l0, l1, l2] at a2
      rw [List.drop_eq_getElem_cons l0, List.drop_eq_getElem_cons l1, List.drop_eq_getElem_cons l2]
      simp only [List.take_succ_cons, List.take_zero, List.cons.injEq, and_true]
      refine ⟨UInt8.toNat.inj (by rw [← a2.1]; rfl), UInt8.toNat.inj (by rw [← a2.2.1]; rfl), UInt8.toNat.inj (by rw [← a2.2.2]; rfl)⟩
end Go.Proofs.YtpncjpgjmpemiaaDoor
